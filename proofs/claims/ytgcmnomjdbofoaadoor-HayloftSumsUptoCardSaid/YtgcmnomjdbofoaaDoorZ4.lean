/- The parts AnsW, QVx3, SumW of this proof, one behind the other. -/
import Derived.Test.YtgcmnomjdbofoaaDoorZ3
import Derived.Deep.CutRange
/- plan.Answer, walked. -/
namespace Go.Proofs.YtgcmnomjdbofoaaDoor.QV
open Go.RowKit Go.Proofs.YtgcmnomjdbofoaaDoorW.PrintWords Go.Proofs.YtgcmnomjdbofoaaDoor.SeqW Go.Shelf Go.Proofs.YtgcmnomjdbofoaaDoor.Op Go.Proofs.YtgcmnomjdbofoaaDoor.Stab
set_option linter.unusedVariables false
set_option linter.unusedSimpArgs false
set_option maxRecDepth 100000
attribute [local go_sem] Oper.semAt_some
theorem btrA {a b c : World} (h : Below a.heap.size a b) (k : Below b.heap.size b c) : Below a.heap.size a c := h.trans (k.mono h.size)
set_option maxHeartbeats 8000000 in
theorem answer_any (q : Qy) (u : Array Value) (LA : Option Addr) (lc : Nat) (left : List Row) (RA : Option Addr) (rc : Nat) (right : List Row) (w : World) (hq : QAt w q u) (hs : QSmall q)
    (hL : kRows.C w LA left.length left) (hLc : left.length ≤ lc) (hR : kRows.C w RA right.length right) (hRc : right.length ≤ rc) (hT : Tab w)
    (hlr : ∀ x ∈ left, x.length ≤ 1048576) (hrr : ∀ x ∈ right, x.length ≤ 1048576) (hj : ∀ x ∈ left, ∀ y ∈ right, x.length + y.length ≤ 1048576) (hl : left.length ≤ 1048576) (hr : right.length ≤ 1048576) :
    Calls Tryd.prog 6 #[.agg u, .slice LA left.length lc, .slice RA right.length rc] w fun e w' => ∃ (A : Option Addr) (c : Nat) (R : List Row) (code : Int), e = .returned (.tuple #[.slice A R.length c, .int .i64 code]) ∧ R.length ≤ c ∧ kRows.C w' A R.length R ∧ Ans q left right R code ∧ Below w.heap.size w w' := by
  obtain ⟨tbl, rgt, wA, wn, cA, cc, bA, bc, gA, gc, oA, oc, rfl, hwh, hcols, hby, hag, hord⟩ := hq.ex
  clear hq
  have hjl : ∀ x ∈ joinL left right q.lo q.ro, x.length ≤ 1048576 := by
    intro x hx
    unfold joinL joinOne at hx
    rw [List.mem_flatMap] at hx
    obtain ⟨a, ha, hx⟩ := hx
    split at hx
    · simp at hx
    · obtain ⟨b, hb, rfl⟩ := List.mem_map.1 hx
      rw [List.length_append]
      exact hj a ha b (List.mem_filter.1 (List.mem_filter.1 hb).1).1
  have hans : ∀ rows R code, rowsQ q left right = some rows → ((4096 < (outQ q rows).length ∧ R = [] ∧ code = 150) ∨ ((outQ q rows).length ≤ 4096 ∧ code = 0 ∧ ∃ R0, Sorts [] (ordS q.ord) (outQ q rows) R0 ∧ R = cutQ q R0)) → Ans q left right R code := fun rows R code h1 h2 => by
    unfold Ans; rw [h1]; exact h2
  have hansN : rowsQ q left right = none → Ans q left right [] 150 := fun h => by
    unfold Ans; rw [h]; exact ⟨rfl, rfl⟩
  have hrq : rowsQ q left right = if q.join then (if 65536 < (joinL left right q.lo q.ro).length then none else some (joinL left right q.lo q.ro)) else some left := rfl
  have houtr := outQ_rows hs
  have hout : ∀ rows, outQ q rows = if q.grp then groupL q.byc q.aggs (rows.filter (allS q.wh)) else (rows.filter (allS q.wh)).map (fun x => pickS x q.cols) := fun _ => rfl
  have hcut : ∀ R, cutQ q R = if 0 < q.lim ∧ q.lim < (R.length : Int) then R.take q.lim.toNat else R := fun _ => rfl
  obtain ⟨hs1, hs2, hs3, hs4⟩ := hs
  obtain ⟨join, lo, ro, wh, cols, grp, byc, aggs, ord, lim⟩ := q
  simp only at hrq hs1 hs2 hs3 hs4 hwh hcols hby hag hord hjl hout hcut
  have HANS := Lib.hid (And.intro hans hansN)
  have HRQ := Lib.hid hrq
  have HOUT := Lib.hid (And.intro hout houtr)
  have HCUT := Lib.hid hcut
  clear hans hansN hrq hout houtr hcut
  go_enter Tryd.func6, Tryd.ntmps6
  go_wp2_with fail
  obtain ⟨w1, hw1⟩ : ∃ w1, w.alloc (.cells #[.int .i64 tbl, .bool join, .int .i64 rgt, .int .i64 lo, .int .i64 ro, .slice wA wh.length wn, .slice cA cols.length cc, .bool grp, .slice bA byc.length bc, .slice gA aggs.length gc, .slice oA ord.length oc, .int .i64 lim] 28) = w1 := ⟨_, rfl⟩
  rw [hw1]
  have hb1 : Below w.heap.size w w1 := by rw [← hw1]; exact below_alloc (Below.refl _ _) _
  have gq : w1.heap[w.heap.size]? = some (.cells #[.int .i64 tbl, .bool join, .int .i64 rgt, .int .i64 lo, .int .i64 ro, .slice wA wh.length wn, .slice cA cols.length cc, .bool grp, .slice bA byc.length bc, .slice gA aggs.length gc, .slice oA ord.length oc, .int .i64 lim] 28 (0, 0)) := by rw [← hw1]; exact blk_new _ _
  clear hw1
  have hbox : ∀ V, Below w1.heap.size w1 V → V.cell? ⟨w.heap.size, 1, none⟩ = some (.bool join) ∧ V.cell? ⟨w.heap.size, 3, none⟩ = some (.int .i64 lo) ∧ V.cell? ⟨w.heap.size, 4, none⟩ = some (.int .i64 ro) ∧ V.cell? ⟨w.heap.size, 5, none⟩ = some (.slice wA wh.length wn) ∧ V.cell? ⟨w.heap.size, 6, none⟩ = some (.slice cA cols.length cc) ∧ V.cell? ⟨w.heap.size, 7, none⟩ = some (.bool grp) ∧ V.cell? ⟨w.heap.size, 8, none⟩ = some (.slice bA byc.length bc) ∧ V.cell? ⟨w.heap.size, 9, none⟩ = some (.slice gA aggs.length gc) ∧ V.cell? ⟨w.heap.size, 10, none⟩ = some (.slice oA ord.length oc) ∧ V.cell? ⟨w.heap.size, 11, none⟩ = some (.int .i64 lim) := fun V hV => by
    have g := blk_below gq hV
    exact ⟨blk_cell g 1, blk_cell g 3, blk_cell g 4, blk_cell g 5, blk_cell g 6, blk_cell g 7, blk_cell g 8, blk_cell g 9, blk_cell g 10, blk_cell g 11⟩
  have HBOX := Lib.hid hbox
  clear hbox gq
  refine (values_is LA left lc w1 (Kd.C_below hL hb1)).mono ?_
  rintro e w2 ⟨v2, rfl, hs2', hb2⟩
  obtain ⟨f2, l2, rfl⟩ := hs2'.form
  have hB2 := btrA hb1 hb2
  obtain ⟨x1, x3, x4, x5, x6, x7, x8, x9, x10, x11⟩ := HBOX.out w2 hb2
  go_upto_if 16 with fail
  go_cut [8] from 15 to 33 (fun s8 wx => ∃ (rows : List Row), rowsQ ⟨join, lo, ro, wh, cols, grp, byc, aggs, ord, lim⟩ left right = some rows ∧ IsSeq wx s8 rows ∧ (∀ x ∈ rows, x.length ≤ 1048576) ∧ rows.length ≤ 1048576 ∧ Below w.heap.size w wx ∧ Below w1.heap.size w1 wx)
  case first =>
    cases join with
    | false =>
      go_wp2_with fail
      go_meet
      case rel => exact ⟨left, by rw [HRQ.out]; rfl, hs2', hlr, hl, hB2, hb2⟩
    | true =>
      obtain ⟨JL, hJL⟩ : ∃ JL, joinL left right lo ro = JL := ⟨_, rfl⟩
      rw [hJL] at hjl
      have S0 : ∀ V, Below w2.heap.size w2 V → V.cell? ⟨w.heap.size, 3, none⟩ = some (.int .i64 lo) ∧ V.cell? ⟨w.heap.size, 4, none⟩ = some (.int .i64 ro) := fun V hV => ⟨(HBOX.out V (btrA hb2 hV)).2.1, (HBOX.out V (btrA hb2 hV)).2.2.1⟩
      go_wp2_with fail
      refine (wpIn_wide (n := 0)).1 ?_
      refine wpIn_region_R (l := 0) 99 (S := fun V => V.cell? ⟨w.heap.size, 3, none⟩ = some (.int .i64 lo) ∧ V.cell? ⟨w.heap.size, 4, none⟩ = some (.int .i64 ro)) (by kernel_rfl) (S0 _ (below_drew (Below.refl _ _))) (fun hS0 => ?_)
      refine wpAnyR_take (i := 0) (oi := ⟨some 18, _, _, _, _, _⟩) (v := ?_) (by kernel_rfl) (by kernel_rfl) rfl (by kernel_rfl) (by kernel_rfl) (by kernel_rfl) (fun _ _ _ h => h) (Or.inl ⟨by rfl, ?_⟩) (by assumption) ?_
      rotate_left
      · intro w hSw; (try dsimp only at hSw); (try go_split_ands); go_simp; (try (with_reducible rfl))
      (try simp only [Act.put, List.setIfInBounds_toArray, List.set_cons_zero, List.set_cons_succ])
      refine wpAnyR_take (i := 1) (oi := ⟨some 19, _, _, _, _, _⟩) (v := ?_) (by kernel_rfl) (by kernel_rfl) rfl (by kernel_rfl) (by kernel_rfl) (by kernel_rfl) (fun _ _ _ h => h) (Or.inl ⟨by rfl, ?_⟩) (by assumption) ?_
      rotate_left
      · intro w hSw; (try dsimp only at hSw); (try go_split_ands); go_simp; (try (with_reducible rfl))
      (try simp only [Act.put, List.setIfInBounds_toArray, List.set_cons_zero, List.set_cons_succ])
      refine wpAnyR_take (i := 3) (oi := ⟨some 21, _, _, _, _, _⟩) (v := ?_) (by kernel_rfl) (by kernel_rfl) rfl (by kernel_rfl) (by kernel_rfl) (by kernel_rfl) (fun _ _ _ h => h) (Or.inl ⟨by rfl, ?_⟩) (by assumption) ?_
      rotate_left
      · intro w hSw; (try dsimp only at hSw); (try go_split_ands); go_simp; (try (with_reducible rfl))
      (try simp only [Act.put, List.setIfInBounds_toArray, List.set_cons_zero, List.set_cons_succ])
      refine wpAnyR_take (i := 4) (oi := ⟨some 22, _, _, _, _, _⟩) (v := ?_) (by kernel_rfl) (by kernel_rfl) rfl (by kernel_rfl) (by kernel_rfl) (by kernel_rfl) (fun _ _ _ h => h) (Or.inl ⟨by rfl, ?_⟩) (by assumption) ?_
      rotate_left
      · intro w hSw; (try dsimp only at hSw); (try go_split_ands); go_simp; (try (with_reducible rfl))
      (try simp only [Act.put, List.setIfInBounds_toArray, List.set_cons_zero, List.set_cons_succ])
      refine wpAnyR_take (i := 5) (oi := ⟨some 23, _, _, _, _, _⟩) (v := ?_) (by kernel_rfl) (by kernel_rfl) rfl (by kernel_rfl) (by kernel_rfl) (by kernel_rfl) (fun _ _ _ h => h) (Or.inl ⟨by rfl, ?_⟩) (by assumption) ?_
      rotate_left
      · intro w hSw; (try dsimp only at hSw); (try go_split_ands); go_simp; (try (with_reducible rfl))
      (try simp only [Act.put, List.setIfInBounds_toArray, List.set_cons_zero, List.set_cons_succ])
      refine wpAnyR_take (i := 6) (oi := ⟨some 24, _, _, _, _, _⟩) (v := ?_) (by kernel_rfl) (by kernel_rfl) rfl (by kernel_rfl) (by kernel_rfl) (by kernel_rfl) (fun _ _ _ h => h) (Or.inl ⟨by rfl, ?_⟩) (by assumption) ?_
      rotate_left
      · intro w hSw; (try dsimp only at hSw); (try go_split_ands); go_simp; (try (with_reducible rfl))
      (try simp only [Act.put, List.setIfInBounds_toArray, List.set_cons_zero, List.set_cons_succ])
      refine wpAnyR_one (i := 2) (o := ⟨some 20, _, _, _, _, _⟩) (by kernel_rfl) (by kernel_rfl) rfl (fun K hK => ?_)
      go_simp
      have hBd : Below w.heap.size w w2.drew := below_drew hB2
      refine (values_is RA right rc w2.drew (Kd.C_below hR hBd)).mono ?_
      rintro e w3 ⟨v3, rfl, hs3', hb3⟩
      obtain ⟨f3, l3, rfl⟩ := hs3'.form
      have hb3' : Below w2.heap.size w2 w3 := (below_drew (Below.refl _ w2)).trans hb3
      (try dsimp only)
      refine hK.out _ _ (.inr (S0 _ hb3')) ?_
      clear hK K
      (try simp only [Act.put, List.setIfInBounds_toArray, List.set_cons_zero, List.set_cons_succ])
      refine wpAnyR_one (i := 7) (o := ⟨some 25, _, _, _, _, _⟩) (by kernel_rfl) (by kernel_rfl) rfl (fun K hK => ?_)
      go_simp
      refine (join_is left right lo ro _ _ w3 (hs2'.later hb3') hs3' hrr hlr hr).mono ?_
      rintro e w4 ⟨v4, rfl, hs4', hb4⟩
      rw [hJL] at hs4'
      obtain ⟨f4, l4, rfl⟩ := hs4'.seq.form
      have hb4' : Below w2.heap.size w2 w4 := btrA hb3' hb4
      (try dsimp only)
      refine hK.out _ _ (.inr (S0 _ hb4')) ?_
      clear hK K
      (try simp only [Act.put, List.setIfInBounds_toArray, List.set_cons_zero, List.set_cons_succ])
      refine wpAnyR_one (i := 8) (o := ⟨some 26, _, _, _, _, _⟩) (by kernel_rfl) (by kernel_rfl) rfl (fun K hK => ?_)
      go_simp
      refine (collect_any _ JL 65536 w4 hs4'.seq (by omega) (by omega) (fun x hx => by have := hjl x hx; omega)).mono ?_
      rintro e w5 ⟨hb5, hcol⟩
      have hb5' : Below w2.heap.size w2 w5 := btrA hb4' hb5
      have hB5 := btrA hB2 hb5'
      rcases hcol with ⟨hfew, v5, rfl, hS5⟩ | ⟨hmany, rfl⟩
      · obtain ⟨B5, c5, rfl, hle5, hC5⟩ := Kd.S_reads hS5
        (try dsimp only)
        refine hK.out _ _ (.inr (S0 _ hb5')) ?_
        clear hK K
        (try simp only [Act.put, List.setIfInBounds_toArray, List.set_cons_zero, List.set_cons_succ])
        have hS5w := S0 _ hb5'
        refine wpAnyR_take (i := 9) (oi := ⟨some 17, _, _, _, _, _⟩) (v := ?_) (by kernel_rfl) (by kernel_rfl) rfl (by kernel_rfl) (by kernel_rfl) (by kernel_rfl) (fun _ _ _ h => h) (Or.inl ⟨by rfl, ?_⟩) (by assumption) ?_
        rotate_left
        · intro w hSw; (try dsimp only at hSw); (try go_split_ands); go_simp; (try (with_reducible rfl))
        (try simp only [Act.put, List.setIfInBounds_toArray, List.set_cons_zero, List.set_cons_succ])
        refine wpAnyR_take (i := 10) (oi := ⟨some 27, _, _, _, _, _⟩) (v := ?_) (by kernel_rfl) (by kernel_rfl) rfl (by kernel_rfl) (by kernel_rfl) (by kernel_rfl) (fun _ _ _ h => h) (Or.inl ⟨by rfl, ?_⟩) (by assumption) ?_
        rotate_left
        · intro w hSw; (try dsimp only at hSw); (try go_split_ands); go_simp; (try (with_reducible rfl))
        (try simp only [Act.put, List.setIfInBounds_toArray, List.set_cons_zero, List.set_cons_succ])
        refine wpAnyR_take (i := 11) (oi := ⟨some 28, _, _, _, _, _⟩) (v := ?_) (by kernel_rfl) (by kernel_rfl) rfl (by kernel_rfl) (by kernel_rfl) (by kernel_rfl) (fun _ _ _ h => h) (Or.inl ⟨by rfl, ?_⟩) (by assumption) ?_
        rotate_left
        · intro w hSw; (try dsimp only at hSw); (try go_split_ands); go_simp; (try (with_reducible rfl))
        (try simp only [Act.put, List.setIfInBounds_toArray, List.set_cons_zero, List.set_cons_succ])
        refine wpAnyR_take (i := 12) (oi := ⟨some 9, _, _, _, _, _⟩) (v := ?_) (by kernel_rfl) (by kernel_rfl) rfl (by kernel_rfl) (by kernel_rfl) (by kernel_rfl) (fun _ _ _ h => h) (Or.inl ⟨by rfl, ?_⟩) (by assumption) ?_
        rotate_left
        · intro w hSw; (try dsimp only at hSw); (try go_split_ands); go_simp; (try (with_reducible rfl))
        (try simp only [Act.put, List.setIfInBounds_toArray, List.set_cons_zero, List.set_cons_succ])
        refine wpAnyR_take (i := 13) (oi := ⟨some 10, _, _, _, _, _⟩) (v := ?_) (by kernel_rfl) (by kernel_rfl) rfl (by kernel_rfl) (by kernel_rfl) (by kernel_rfl) (fun _ _ _ h => h) (Or.inl ⟨by rfl, ?_⟩) (by assumption) ?_
        rotate_left
        · intro w hSw; (try dsimp only at hSw); (try go_split_ands); go_simp; (try (with_reducible rfl))
        (try simp only [Act.put, List.setIfInBounds_toArray, List.set_cons_zero, List.set_cons_succ])
        refine wpAnyR_done (by kernel_rfl) ?_ _
        go_wp2_with fail
        refine (values_is B5 JL c5 w5 hC5).mono ?_
        rintro e w6 ⟨v6, rfl, hs6', hb6⟩
        obtain ⟨f6, l6, rfl⟩ := hs6'.form
        go_wp2_with fail
        go_meet
        case rel =>
          refine ⟨JL, ?_, hs6', hjl, by omega, btrA hB5 hb6, btrA (btrA hb2 hb5') hb6⟩
          have h := HRQ.out
          simp only [if_true, hJL] at h
          rw [h, if_neg (by omega)]
      · (try dsimp only)
        refine hK.out _ _ (.inr (S0 _ hb5')) ?_
        clear hK K
        (try simp only [Act.put, List.setIfInBounds_toArray, List.set_cons_zero, List.set_cons_succ])
        have hS5w := S0 _ hb5'
        refine wpAnyR_take (i := 9) (oi := ⟨some 17, _, _, _, _, _⟩) (v := ?_) (by kernel_rfl) (by kernel_rfl) rfl (by kernel_rfl) (by kernel_rfl) (by kernel_rfl) (fun _ _ _ h => h) (Or.inl ⟨by rfl, ?_⟩) (by assumption) ?_
        rotate_left
        · intro w hSw; (try dsimp only at hSw); (try go_split_ands); go_simp; (try (with_reducible rfl))
        (try simp only [Act.put, List.setIfInBounds_toArray, List.set_cons_zero, List.set_cons_succ])
        refine wpAnyR_take (i := 10) (oi := ⟨some 27, _, _, _, _, _⟩) (v := ?_) (by kernel_rfl) (by kernel_rfl) rfl (by kernel_rfl) (by kernel_rfl) (by kernel_rfl) (fun _ _ _ h => h) (Or.inl ⟨by rfl, ?_⟩) (by assumption) ?_
        rotate_left
        · intro w hSw; (try dsimp only at hSw); (try go_split_ands); go_simp; (try (with_reducible rfl))
        (try simp only [Act.put, List.setIfInBounds_toArray, List.set_cons_zero, List.set_cons_succ])
        refine wpAnyR_take (i := 11) (oi := ⟨some 28, _, _, _, _, _⟩) (v := ?_) (by kernel_rfl) (by kernel_rfl) rfl (by kernel_rfl) (by kernel_rfl) (by kernel_rfl) (fun _ _ _ h => h) (Or.inl ⟨by rfl, ?_⟩) (by assumption) ?_
        rotate_left
        · intro w hSw; (try dsimp only at hSw); (try go_split_ands); go_simp; (try (with_reducible rfl))
        (try simp only [Act.put, List.setIfInBounds_toArray, List.set_cons_zero, List.set_cons_succ])
        refine wpAnyR_take (i := 12) (oi := ⟨some 9, _, _, _, _, _⟩) (v := ?_) (by kernel_rfl) (by kernel_rfl) rfl (by kernel_rfl) (by kernel_rfl) (by kernel_rfl) (fun _ _ _ h => h) (Or.inl ⟨by rfl, ?_⟩) (by assumption) ?_
        rotate_left
        · intro w hSw; (try dsimp only at hSw); (try go_split_ands); go_simp; (try (with_reducible rfl))
        (try simp only [Act.put, List.setIfInBounds_toArray, List.set_cons_zero, List.set_cons_succ])
        refine wpAnyR_take (i := 13) (oi := ⟨some 10, _, _, _, _, _⟩) (v := ?_) (by kernel_rfl) (by kernel_rfl) rfl (by kernel_rfl) (by kernel_rfl) (by kernel_rfl) (fun _ _ _ h => h) (Or.inl ⟨by rfl, ?_⟩) (by assumption) ?_
        rotate_left
        · intro w hSw; (try dsimp only at hSw); (try go_split_ands); go_simp; (try (with_reducible rfl))
        (try simp only [Act.put, List.setIfInBounds_toArray, List.set_cons_zero, List.set_cons_succ])
        refine wpAnyR_done (by kernel_rfl) ?_ _
        go_wp2_with fail
        go_ret2
        refine ⟨none, 0, [], 150, rfl, Nat.le_refl _, Kd.C_nil _ _, HANS.out.2 ?_, hB5⟩
        have h := HRQ.out
        simp only [if_true, hJL] at h
        rw [h, if_pos (by omega)]
  case rest =>
    obtain ⟨rows, hrows, hsR, hrl, hrn, hBc, hb1c⟩ := hcut
    clear x1 x3 x4 x5 x6 x7 x8 x9 x10 x11 hs2'
    obtain ⟨f7, l7, rfl⟩ := hsR.form
    obtain ⟨x1, x3, x4, x5, x6, x7, x8, x9, x10, x11⟩ := HBOX.out wc hb1c
    go_wp2_with fail
    refine (filter_is rows wh wA wn _ wc hsR (Kd.C_below hwh.1 hBc) hwh.2 (hT.below hBc) hrl (by omega)).mono ?_
    rintro e w8 ⟨v8, rfl, hs8, hb8⟩
    obtain ⟨f8, l8, rfl⟩ := hs8.seq.form
    have hB8 := btrA hBc hb8
    have hb18 := btrA hb1c hb8
    obtain ⟨FL, hFL⟩ : ∃ FL, rows.filter (allS wh) = FL := ⟨_, rfl⟩
    have hfl : FL.length ≤ rows.length := by rw [← hFL]; exact List.length_filter_le _ _
    have hfr : ∀ x ∈ FL, x.length ≤ 1048576 := fun x hx => by rw [← hFL] at hx; exact hrl x (List.mem_filter.1 hx).1
    rw [hFL] at hs8
    have hO := HOUT.out.1 rows
    have hOr := HOUT.out.2 rows
    obtain ⟨OL, hOL⟩ : ∃ OL, outQ ⟨join, lo, ro, wh, cols, grp, byc, aggs, ord, lim⟩ rows = OL := ⟨_, rfl⟩
    have hA := HANS.out.1 rows
    rw [hFL] at hO
    rw [hOL] at hO hOr hA
    have HA := Lib.hid (And.intro hO (And.intro hA hrows))
    clear hO hA hFL hOL hrows x1 x3 x4 x5 x6 x7 x8 x9 x10 x11
    obtain ⟨x1, x3, x4, x5, x6, x7, x8, x9, x10, x11⟩ := HBOX.out w8 hb18
    go_upto_if 39 with fail
    go_cut [8] from 38 to 49 (fun s8 wx => IsSeq wx s8 OL ∧ Below w.heap.size w wx ∧ Below w1.heap.size w1 wx)
    case first =>
      cases grp with
      | false =>
        go_wp2_with fail
        refine (project_is FL cols cA cc _ w8 hs8.seq (Kd.C_below hcols.1 hB8) hcols.2 (by omega)).mono ?_
        rintro e w9 ⟨v9, rfl, hs9, hb9⟩
        obtain ⟨f9, l9, rfl⟩ := hs9.seq.form
        go_wp2_with fail
        go_meet
        case rel => exact ⟨by rw [HA.out.1]; exact hs9.seq, btrA hB8 hb9, btrA hb18 hb9⟩
      | true =>
        go_wp2_with fail
        refine (group_is FL byc aggs bA bc gA gc _ w8 hs8.seq (Kd.C_below hby.1 hB8) hby.2 (Kd.C_below hag.1 hB8) hag.2 hfr (by omega) (by omega) (by omega)).mono ?_
        rintro e w9 ⟨v9, rfl, hs9, hb9⟩
        obtain ⟨f9, l9, rfl⟩ := hs9.seq.form
        go_wp2_with fail
        go_meet
        case rel => exact ⟨by rw [HA.out.1]; exact hs9.seq, btrA hB8 hb9, btrA hb18 hb9⟩
    case rest =>
      obtain ⟨hsO, hBo, hb1o⟩ := hcut
      obtain ⟨WO, rfl⟩ : ∃ WO, WO = wc := ⟨_, rfl⟩
      obtain ⟨f10, l10, rfl⟩ := hsO.form
      clear x1 x3 x4 x5 x6 x7 x8 x9 x10 x11
      go_wp2_with fail
      refine (collect_any _ OL 4096 WO hsO (by omega) (by omega) (fun x hx => by have := hOr x hx; omega)).mono ?_
      rintro e w11 ⟨hb11, hcol⟩
      have hB11 := btrA hBo hb11
      have hb111 := btrA hb1o hb11
      obtain ⟨x1, x3, x4, x5, x6, x7, x8, x9, x10, x11⟩ := HBOX.out w11 hb111
      rcases hcol with ⟨hfew, v11, rfl, hS11⟩ | ⟨hmany, rfl⟩
      · obtain ⟨B11, c11, rfl, hle11, hC11⟩ := Kd.S_reads hS11
        have hoe : OL.length ≤ 4096 := by omega
        go_wp2_with fail
        refine (sort_any B11 c11 OL oA oc ord w11 hC11 hle11 (Kd.C_below hord.1 hB11) hord.2 hOr (by omega)).mono ?_
        rintro e w12 ⟨B12, c12, R0, rfl, hle12, hC12, hso12, hb12⟩
        have hB12 := btrA hB11 hb12
        have hb112 := btrA hb111 hb12
        have hlim := (HBOX.out w12 hb112).2.2.2.2.2.2.2.2.2
        have hRl : R0.length = OL.length := hso12.len
        have HRL := Lib.hid hRl
        clear hRl x1 x3 x4 x5 x6 x7 x8 x9 x10 x11
        have hR0 : R0.length ≤ 4096 := by rw [HRL.out]; exact hoe
        by_cases hc1 : 0 < lim
        · by_cases hc2 : lim < (R0.length : Int)
          · obtain ⟨m, hm⟩ : ∃ m : Nat, lim = (m : Int) := ⟨lim.toNat, by omega⟩
            have hml : m < R0.length := by omega
            subst hm
            have hmc : m ≤ c12 := by omega
            have htk := Kd.C_take (m := m) hC12 (by omega)
            have htl : (R0.take m).length = m := by rw [List.length_take]; omega
            go_wp2_with fail
            go_ret2
            refine ⟨B12, m, R0.take m, 0, by rw [htl]; rfl, by rw [htl]; exact Nat.le_refl _, htk, HA.out.2.1 _ _ HA.out.2.2 (.inr ⟨hoe, rfl, R0, hso12, ?_⟩), hB12⟩
            rw [HCUT.out, if_pos ⟨hc1, hc2⟩]; rfl
          · go_wp2_with fail
            go_ret2
            refine ⟨B12, c12, R0, 0, rfl, hle12, hC12, HA.out.2.1 _ _ HA.out.2.2 (.inr ⟨hoe, rfl, R0, hso12, ?_⟩), hB12⟩
            rw [HCUT.out, if_neg (fun h => by have := h.2; omega)]
        · go_wp2_with fail
          go_ret2
          refine ⟨B12, c12, R0, 0, rfl, hle12, hC12, HA.out.2.1 _ _ HA.out.2.2 (.inr ⟨hoe, rfl, R0, hso12, ?_⟩), hB12⟩
          rw [HCUT.out, if_neg (fun h => by have := h.1; omega)]
      · go_wp2_with fail
        go_ret2
        exact ⟨none, 0, [], 150, rfl, Nat.le_refl _, Kd.C_nil _ _, HA.out.2.1 _ _ HA.out.2.2 (.inl ⟨by omega, rfl, rfl⟩), hB11⟩
end Go.Proofs.YtgcmnomjdbofoaaDoor.QV
/- Printed by mp.py (this session's) with the kit's print: plain functions with the answers of the Go code, and the proofs of it. -/
namespace Go.Proofs.YtgcmnomjdbofoaaDoor.QV
open Go.RowKit Go.Proofs.YtgcmnomjdbofoaaDoorW.PrintWords Go.Proofs.YtgcmnomjdbofoaaDoorW.PrintLast Go.Proofs.YtgcmnomjdbofoaaDoorW.PrintMore
attribute [local go_sem] max2_int min2_int max_two min_two max_three min_three max_four min_four   -- for this text's walks alone
set_option linter.unusedVariables false
set_option linter.unusedSimpArgs false

/-! ### haylofttop_summed: function 21 -/
mutual
def haylofttop_summed.l0 : Nat → List (S33) → List (S33) → Int → List (S33) → List (S30) → Int → Int → Option ((List (S33)))
  | 0, _, _, _, _, _, _, _ => none
  | k + 1, x0, x1, x2, x9, x18, x19, x20 => if x20 < x19 then (if 0 ≤ x20 then (if x20 < (x18.length : Int) then (if 0 ≤ (wrap64 (x2 + x20)) then (if (wrap64 (x2 + x20)) < (x0.length : Int) then (if (wrap64 (x2 + x20)) < (x1.length : Int) then (if ((rd_T33 x0 (wrap64 (x2 + x20))).f0) = 0 then (if x9.length < 3518437208883 then (haylofttop_summed.l0 k x0 x1 x2 (x9 ++ [(⟨(rd_T33 x1 (wrap64 (x2 + x20))).f0, (rd_T33 x1 (wrap64 (x2 + x20))).f1, (rd_T33 x1 (wrap64 (x2 + x20))).f2, (rd_T33 x1 (wrap64 (x2 + x20))).f3⟩ : S33)]) x18 x19 (wrap64 (x20 + 1))) else (none)) else (if ((rd_T33 x1 (wrap64 (x2 + x20))).f0) = 0 then (if x9.length < 3518437208883 then (haylofttop_summed.l0 k x0 x1 x2 (x9 ++ [(⟨(rd_T33 x0 (wrap64 (x2 + x20))).f0, (rd_T33 x0 (wrap64 (x2 + x20))).f1, (rd_T33 x0 (wrap64 (x2 + x20))).f2, (rd_T33 x0 (wrap64 (x2 + x20))).f3⟩ : S33)]) x18 x19 (wrap64 (x20 + 1))) else (none)) else (if ((rd_T30 x18 x20).f0) = 0 then (haylofttop_summed.j1 k x0 x1 x2 x9 x18 x19 x20 true ((rd_T30 x18 x20).f0) ((rd_T30 x18 x20).f1) ((rd_T33 x0 (wrap64 (x2 + x20))).f0) ((rd_T33 x0 (wrap64 (x2 + x20))).f1) ((rd_T33 x0 (wrap64 (x2 + x20))).f2) ((rd_T33 x0 (wrap64 (x2 + x20))).f3) ((rd_T33 x1 (wrap64 (x2 + x20))).f0) ((rd_T33 x1 (wrap64 (x2 + x20))).f1) ((rd_T33 x1 (wrap64 (x2 + x20))).f2) ((rd_T33 x1 (wrap64 (x2 + x20))).f3)) else (haylofttop_summed.j1 k x0 x1 x2 x9 x18 x19 x20 (((rd_T30 x18 x20).f0) == 1) ((rd_T30 x18 x20).f0) ((rd_T30 x18 x20).f1) ((rd_T33 x0 (wrap64 (x2 + x20))).f0) ((rd_T33 x0 (wrap64 (x2 + x20))).f1) ((rd_T33 x0 (wrap64 (x2 + x20))).f2) ((rd_T33 x0 (wrap64 (x2 + x20))).f3) ((rd_T33 x1 (wrap64 (x2 + x20))).f0) ((rd_T33 x1 (wrap64 (x2 + x20))).f1) ((rd_T33 x1 (wrap64 (x2 + x20))).f2) ((rd_T33 x1 (wrap64 (x2 + x20))).f3))))) else (none)) else (none)) else (none)) else (none)) else (none)) else (some x9)
def haylofttop_summed.j1 : Nat → List (S33) → List (S33) → Int → List (S33) → List (S30) → Int → Int → Bool → Int → Int → Int → Bool → Int → ByteArray → Int → Bool → Int → ByteArray → Option ((List (S33)))
  | 0, _, _, _, _, _, _, _, _, _, _, _, _, _, _, _, _, _, _ => none
  | k + 1, x0, x1, x2, x9, x18, x19, x20, x46, x137000, x137001, x139000, x139001, x139002, x139003, x141000, x141001, x141002, x141003 => if x46 = true then (if x9.length < 3518437208883 then (haylofttop_summed.l0 k x0 x1 x2 (x9 ++ [(⟨x139000, x139001, wrap64 (x139002 + x141002), x139003⟩ : S33)]) x18 x19 (wrap64 (x20 + 1))) else (none)) else (if x137000 = 2 then ((hayloftref02_Compare.f x141000 x141001 x141002 x141003 x139000 x139001 x139002 x139003).bind fun t150 => (haylofttop_summed.j2 k x0 x1 x2 x9 x18 x19 x20 (decide (t150 < 0)) x137000 x137001 x139000 x139001 x139002 x139003 x141000 x141001 x141002 x141003)) else (haylofttop_summed.j2 k x0 x1 x2 x9 x18 x19 x20 false x137000 x137001 x139000 x139001 x139002 x139003 x141000 x141001 x141002 x141003))
def haylofttop_summed.j2 : Nat → List (S33) → List (S33) → Int → List (S33) → List (S30) → Int → Int → Bool → Int → Int → Int → Bool → Int → ByteArray → Int → Bool → Int → ByteArray → Option ((List (S33)))
  | 0, _, _, _, _, _, _, _, _, _, _, _, _, _, _, _, _, _, _ => none
  | k + 1, x0, x1, x2, x9, x18, x19, x20, x61, x137000, x137001, x139000, x139001, x139002, x139003, x141000, x141001, x141002, x141003 => if x61 = true then (if x9.length < 3518437208883 then (haylofttop_summed.l0 k x0 x1 x2 (x9 ++ [(⟨x141000, x141001, x141002, x141003⟩ : S33)]) x18 x19 (wrap64 (x20 + 1))) else (none)) else (if x137000 = 3 then ((hayloftref02_Compare.f x141000 x141001 x141002 x141003 x139000 x139001 x139002 x139003).bind fun t154 => (if t154 > 0 then (if x9.length < 3518437208883 then (haylofttop_summed.l0 k x0 x1 x2 (x9 ++ [(⟨x141000, x141001, x141002, x141003⟩ : S33)]) x18 x19 (wrap64 (x20 + 1))) else (none)) else (if x9.length < 3518437208883 then (haylofttop_summed.l0 k x0 x1 x2 (x9 ++ [(⟨x139000, x139001, x139002, x139003⟩ : S33)]) x18 x19 (wrap64 (x20 + 1))) else (none)))) else (if x9.length < 3518437208883 then (haylofttop_summed.l0 k x0 x1 x2 (x9 ++ [(⟨x139000, x139001, x139002, x139003⟩ : S33)]) x18 x19 (wrap64 (x20 + 1))) else (none)))
end
def haylofttop_summed.f (k : Nat) (l0 : List (S33)) (l1 : List (S33)) (a2 : Int) (l3 : List (S30)) : Option ((List (S33))) := if 0 ≤ a2 then (if a2 ≤ (l0.length : Int) then ((hayloftref02_Copy.f (l0.take (a2 : Int).toNat)).bind fun t132 => (haylofttop_summed.l0 k l0 l1 a2 t132 l3 (l3.length : Int) 0)) else (none)) else (none)
set_option maxHeartbeats 8000000 in
set_option maxRecDepth 100000 in
theorem haylofttop_summed.calls (k : Nat) (A0 : Option Addr) (c0 : Nat) (l0 : List (S33)) (A1 : Option Addr) (c1 : Nat) (l1 : List (S33)) (a2 : Int) (A3 : Option Addr) (c3 : Nat) (l3 : List (S30)) (r : List (S33)) (w : World) (hr0 : Kd.C k33 w A0 l0.length l0) (hc0 : l0.length ≤ c0) (hr1 : Kd.C k33 w A1 l1.length l1) (hc1 : l1.length ≤ c1) (hr3 : Kd.C k30 w A3 l3.length l3) (hc3 : l3.length ≤ c3) (h : haylofttop_summed.f k l0 l1 a2 l3 = some r) :
    Calls Tryd.prog 21 #[.slice A0 l0.length c0, .slice A1 l1.length c1, .int .i64 a2, .slice A3 l3.length c3] w fun e w' => ∃ v0_ : Value, e = .returned (v0_) ∧ Kd.R k33 33 w' w.heap.size (fun _ => True) v0_ r ∧ Below w.heap.size w w' := by
  have hu30 := Tryd.underlying30
  have hu33 := Tryd.underlying33
  have HR0 := Aside0.mk hr0
  have HC0 := Aside0.mk hc0
  clear hr0 hc0
  have HR1 := Aside0.mk hr1
  have HC1 := Aside0.mk hc1
  clear hr1 hc1
  have HR3 := Aside0.mk hr3
  have HC3 := Aside0.mk hc3
  clear hr3 hc3
  have HB := Aside0.mk (Below.refl w.heap.size w)
  have H : (if 0 ≤ a2 then (if a2 ≤ (l0.length : Int) then ((hayloftref02_Copy.f (l0.take (a2 : Int).toNat)).bind fun t132 => (haylofttop_summed.l0 k l0 l1 a2 t132 l3 (l3.length : Int) 0)) else (none)) else (none)) = some r := h
  clear h
  by_cases c5 : 0 ≤ a2
  · rw [if_pos c5] at H
    have c5b0 := eq_true c5
    have c5b1 : decide (0 ≤ a2) = true := decide_eq_true c5
    clear c5
    by_cases c6 : a2 ≤ (l0.length : Int)
    · rw [if_pos c6] at H
      have c6b0 := eq_true c6
      have c6b1 : decide (a2 ≤ (l0.length : Int)) = true := decide_eq_true c6
      clear c6
      obtain ⟨y128, hy128⟩ : ∃ y_ : List (S33), y_ = (l0.take (a2 : Int).toNat) := ⟨_, rfl⟩
      replace H : ((hayloftref02_Copy.f y128).bind fun t132 => (haylofttop_summed.l0 k l0 l1 a2 t132 l3 (l3.length : Int) 0)) = some r := by first | (rw [hy128]; with_reducible exact H) | (have H2_ := (Option.bind_some _ _).symm.trans H; rw [hy128]; with_reducible exact H2_) | (have H2_ := (Option.bind_some _ _).symm.trans H; with_reducible exact H2_) | with_reducible exact H | (rw [hy128]; exact H) | exact H
      have Ny128 := Aside0.mk hy128
      clear hy128
      replace H := Option.bind_eq_some_iff.mp H
      obtain ⟨t132, A70, H⟩ := H
      replace H : (haylofttop_summed.l0 k l0 l1 a2 t132 l3 (l3.length : Int) 0) = some r := H
      have A7 := Aside0.mk A70
      clear A70
      have H' := Aside0.mk H
      clear H
      have q8 : (a2 : Int) ≤ ((l0.length : Int) : Int) := of_decide_eq_true (by first | (with_reducible assumption) | assumption)
      obtain ⟨i08, hi08, _, hsz8, _⟩ := info_parts info33
      have hroom8 : l0.length ≤ c0 := HC0.out
      have hC8 : Kd.C k33 _ A0 l0.length l0 := HR0.out
      have hcut8 := cut_to (P := Tryd.prog) 31 33 .i64 Tryd.underlying31 hi08 A0 l0.length c0 a2 (of_decide_eq_true (by first | (with_reducible assumption) | assumption)) q8 hroom8
      have hr8 := Kd.C_take (m := (a2 : Int).toNat) hC8 (by omega)
      have hy8 : y128.length = (a2 : Int).toNat := (by rw [Ny128.out, List.length_take]; omega)
      rw [← Ny128.out] at hr8
      rw [← hy8] at hcut8
      have HR131 := Aside0.mk hr8
      have HC131 := Aside0.mk (show y128.length ≤ c0 from by omega)
      clear hr8 hC8 hroom8 hi08 hsz8
      have KY8 := Aside0.mk hy8
      clear hy8
      replace q8 := eq_true q8
      go_enter Tryd.func21, Tryd.ntmps21
      go_wp2_with (first | ((with_reducible refine gate_callee (f := 53) rfl ?_); refine goesL_ (some 17) rfl rfl Tryd.func53 (by kernel_rfl) rfl #[.slice A0 y128.length c0] rfl (by (try simp only [List.map_toArray, List.map_cons, List.map_nil]); first | done | rfl | (simp only [List.length_drop, List.length_take]; rfl)) ?_; (with_reducible refine (hayloftref02_Copy.calls _ _ y128 t132 _ ?side1 ?side2 A7.out).mono ?_); (case side1 => repeat (first | exact HR131.out | (with_reducible refine Kd.C_alloc ?_ _) | (with_reducible refine Kd.C_drewN ?_ _) | (with_reducible refine Kd.C_drew ?_))); (case side2 => exact HC131.out); rintro e w9 ⟨v133, rfl, ho0, hb⟩; refine ⟨_, rfl, ?_⟩; have n0_ := Aside0.mk (Kd.R_lower ho0 (below_size (by repeat (first | (with_reducible first | exact HB.out | apply below_alloc | apply pw_below_drewN | apply below_drew1) | exact HB.out)))); have n1_ := Aside0.mk (below_step (by repeat (first | (with_reducible first | exact HB.out | apply below_alloc | apply pw_below_drewN | apply below_drew1) | exact HB.out)) hb); clear HB; have HO134 := n0_; have HB := n1_; clear n0_ n1_; (try clear hb); (try clear hb2); (try clear hk); (try clear hi); (try clear ho0)))
      go_loopg [9, 20] k (fun kq v9 v20 w' => ∃ (x9_1 : List (S33)) (x20_1 : Int), v20 = .int .i64 x20_1 ∧ Aside0 (haylofttop_summed.l0 kq l0 l1 a2 x9_1 l3 (l3.length : Int) x20_1 = some r) ∧ Aside0 (kq ≤ k) ∧ Aside0 (Kd.R k33 33 w' w.heap.size (fun _ => True) v9 x9_1) ∧ Aside0 (Below w.heap.size w w'))
      case atStart => exact ⟨(t132), (0), (by first | rfl | (simp; done) | (simp [*]; done)), H', ⟨Nat.le_refl _⟩, ⟨by (with_reducible repeat (first | apply Kd.R_alloc | apply Kd.R_drewN | apply Kd.R_drew)); exact HO134.out⟩, ⟨by repeat (first | (with_reducible first | exact HB.out | apply below_alloc | apply pw_below_drewN | apply below_drew1) | exact HB.out)⟩⟩
      case round =>
        clear H'
        try clear c1
        try clear c2
        try clear p2
        try clear c3
        try clear c5
        try clear c5b0
        try clear c5b1
        try clear c6
        try clear c6b0
        try clear c6b1
        try clear q8
        try clear q8
        obtain ⟨x9_1, x20_1, rfl, HA, HK1, HO_9, HB⟩ := hrel
        cases gk with
        | zero => exact absurd HA.out (by simp [haylofttop_summed.l0])
        | succ k1 =>
          have H := HA.out
          clear HA
          simp only [haylofttop_summed.l0] at H
          by_cases c10 : x20_1 < (l3.length : Int)
          · rw [if_pos c10] at H
            have c10b0 : decide (x20_1 < (l3.length : Int)) = true := decide_eq_true c10
            clear c10
            by_cases c11 : 0 ≤ x20_1
            · rw [if_pos c11] at H
              have c11b0 : decide (0 ≤ x20_1) = true := decide_eq_true c11
              clear c11
              by_cases c12 : x20_1 < (l3.length : Int)
              · rw [if_pos c12] at H
                have c12b0 : decide (x20_1 < (l3.length : Int)) = true := decide_eq_true c12
                clear c12
                obtain ⟨ji13, hji13⟩ : ∃ j_ : Int, (wrap64 (a2 + x20_1)) = j_ := ⟨_, rfl⟩
                replace H : (if 0 ≤ (ji13) then (if (ji13) < (l0.length : Int) then (if (ji13) < (l1.length : Int) then (if ((rd_T33 l0 (ji13)).f0) = 0 then (if x9_1.length < 3518437208883 then (haylofttop_summed.l0 k1 l0 l1 a2 (x9_1 ++ [(⟨(rd_T33 l1 (ji13)).f0, (rd_T33 l1 (ji13)).f1, (rd_T33 l1 (ji13)).f2, (rd_T33 l1 (ji13)).f3⟩ : S33)]) l3 (l3.length : Int) (wrap64 (x20_1 + 1))) else (none)) else (if ((rd_T33 l1 (ji13)).f0) = 0 then (if x9_1.length < 3518437208883 then (haylofttop_summed.l0 k1 l0 l1 a2 (x9_1 ++ [(⟨(rd_T33 l0 (ji13)).f0, (rd_T33 l0 (ji13)).f1, (rd_T33 l0 (ji13)).f2, (rd_T33 l0 (ji13)).f3⟩ : S33)]) l3 (l3.length : Int) (wrap64 (x20_1 + 1))) else (none)) else (if ((rd_T30 l3 x20_1).f0) = 0 then (haylofttop_summed.j1 k1 l0 l1 a2 x9_1 l3 (l3.length : Int) x20_1 true ((rd_T30 l3 x20_1).f0) ((rd_T30 l3 x20_1).f1) ((rd_T33 l0 (ji13)).f0) ((rd_T33 l0 (ji13)).f1) ((rd_T33 l0 (ji13)).f2) ((rd_T33 l0 (ji13)).f3) ((rd_T33 l1 (ji13)).f0) ((rd_T33 l1 (ji13)).f1) ((rd_T33 l1 (ji13)).f2) ((rd_T33 l1 (ji13)).f3)) else (haylofttop_summed.j1 k1 l0 l1 a2 x9_1 l3 (l3.length : Int) x20_1 (((rd_T30 l3 x20_1).f0) == 1) ((rd_T30 l3 x20_1).f0) ((rd_T30 l3 x20_1).f1) ((rd_T33 l0 (ji13)).f0) ((rd_T33 l0 (ji13)).f1) ((rd_T33 l0 (ji13)).f2) ((rd_T33 l0 (ji13)).f3) ((rd_T33 l1 (ji13)).f0) ((rd_T33 l1 (ji13)).f1) ((rd_T33 l1 (ji13)).f2) ((rd_T33 l1 (ji13)).f3))))) else (none)) else (none)) else (none)) = some r := by first | (rw [hji13] at H; exact H) | (simp only [hji13] at H ⊢; exact H)
                have hji13w : (IntKind.i64.wrap (a2 + x20_1)) = ji13 := (i64_w _).trans hji13
                by_cases c14 : 0 ≤ (ji13)
                · rw [if_pos c14] at H
                  have c14b0 : decide (0 ≤ (ji13)) = true := decide_eq_true c14
                  clear c14
                  by_cases c15 : (ji13) < (l0.length : Int)
                  · rw [if_pos c15] at H
                    have c15b0 : decide ((ji13) < (l0.length : Int)) = true := decide_eq_true c15
                    clear c15
                    by_cases c16 : (ji13) < (l1.length : Int)
                    · rw [if_pos c16] at H
                      have c16b0 : decide ((ji13) < (l1.length : Int)) = true := decide_eq_true c16
                      clear c16
                      by_cases c17 : ((rd_T33 l0 (ji13)).f0) = 0
                      · rw [if_pos c17] at H
                        have c17b0 : (((rd_T33 l0 (ji13)).f0) == 0) = true := beq_iff_eq.mpr c17
                        have c17b1 : (((rd_T33 l0 (ji13)).f0) != 0) = false := bne_eq_false_iff_eq.mpr c17
                        clear c17
                        by_cases c18 : x9_1.length < 3518437208883
                        · rw [if_pos c18] at H
                          have LMc18 := Aside0.mk c18
                          clear c18
                          obtain ⟨y141, hy141⟩ : ∃ y_ : List (S33), y_ = (x9_1 ++ [(⟨(rd_T33 l1 (ji13)).f0, (rd_T33 l1 (ji13)).f1, (rd_T33 l1 (ji13)).f2, (rd_T33 l1 (ji13)).f3⟩ : S33)]) := ⟨_, rfl⟩
                          replace H : (haylofttop_summed.l0 k1 l0 l1 a2 y141 l3 (l3.length : Int) (wrap64 (x20_1 + 1))) = some r := by first | (rw [hy141]; with_reducible exact H) | (have H2_ := (Option.bind_some _ _).symm.trans H; rw [hy141]; with_reducible exact H2_) | (have H2_ := (Option.bind_some _ _).symm.trans H; with_reducible exact H2_) | with_reducible exact H | (rw [hy141]; exact H) | exact H
                          have Ny141 := Aside0.mk hy141
                          clear hy141
                          have H' := Aside0.mk H
                          clear H
                          have p135 : 0 ≤ (x20_1 : Int) := of_decide_eq_true (by first | (with_reducible assumption) | assumption)
                          have q135 : x20_1 < (l3.length : Int) := of_decide_eq_true (by first | (with_reducible assumption) | assumption)
                          obtain ⟨ad135, e135, hx135_0, hx135_1⟩ := at_T30 HR3.out x20_1 p135 q135
                          cases e135
                          replace hx135_0 := (HB.out.cell (World.block_lt_of_cell? w _ hx135_0)).trans hx135_0
                          replace hx135_1 := (HB.out.cell (World.block_lt_of_cell? w _ hx135_1)).trans hx135_1
                          replace p135 := eq_true p135
                          replace q135 := eq_true q135
                          go_wp2_with (first | ((with_reducible refine gate_dst (N := 11) rfl ?_); refine box_event ?hg (N := 11) ?hd (cs := #[.int .i64 0, .int .i64 0]) (t := 30) ?hr ?_; (case hd => rfl); (case hg => rfl); (case hr => first | (go_simp; done) | (go_simp; rfl)); intro gb136 hg w19 hbox hb; have n0_ := Aside0.mk (Kd.R_below (by (with_reducible repeat (first | apply Kd.R_alloc | apply Kd.R_drewN | apply Kd.R_drew)); exact HO_9.out) hb); have n1_ := Aside0.mk (below_step (by repeat (first | (with_reducible first | exact HB.out | apply below_alloc | apply pw_below_drewN | apply below_drew1) | exact HB.out)) hb); have n2_ := Aside0.mk (hbox); have n3_ := Aside0.mk ((by rw [hg]; exact (below_size (by repeat (first | (with_reducible first | exact HB.out | apply below_alloc | apply pw_below_drewN | apply below_drew1) | exact HB.out))) : w.heap.size ≤ gb136)); have n4_ := Aside0.mk ((by rw [hg]; exact (below_size (by repeat (first | (with_reducible first | exact HB.out | apply below_alloc | apply pw_below_drewN | apply below_drew1) | exact HB.out))) : w.heap.size ≤ gb136)); clear HO_9; clear HB; have HO_9 := n0_; have HB := n1_; have BK136 := n2_; have GW136 := n3_; have GE136 := n4_; clear n0_ n1_ n2_ n3_ n4_; clear hb hbox hg; have hcz20_0 : w19.cell? ⟨gb136, 0, none⟩ = some (.int .i64 0) := (blk_cell BK136.out 0).trans rfl; have hcz20_1 : w19.cell? ⟨gb136, 1, none⟩ = some (.int .i64 0) := (blk_cell BK136.out 1).trans rfl; have hfz20_0 := blk_frozen BK136.out 0; have hfz20_1 := blk_frozen BK136.out 1; have p137 : 0 ≤ ((ji13) : Int) := of_decide_eq_true (by first | (with_reducible assumption) | assumption); have q137 : (ji13) < (l0.length : Int) := of_decide_eq_true (by first | (with_reducible assumption) | assumption); obtain ⟨ad137, e137, hx137_0, hx137_1, hx137_2, hx137_3⟩ := at_T33 HR0.out (ji13) p137 q137; cases e137; have hn137_0 : ad137.block ≠ gb136 := Nat.ne_of_lt (Nat.lt_of_lt_of_le (by have := World.block_lt_of_cell? _ _ hx137_0; first | rwa [add_block] at this | exact this) GW136.out); have hn137_1 : ad137.block ≠ gb136 := Nat.ne_of_lt (Nat.lt_of_lt_of_le (by have := World.block_lt_of_cell? _ _ hx137_0; first | rwa [add_block] at this | exact this) GW136.out); replace hx137_0 := (HB.out.cell (World.block_lt_of_cell? w _ hx137_0)).trans hx137_0; replace hx137_1 := (HB.out.cell (World.block_lt_of_cell? w _ hx137_1)).trans hx137_1; replace hx137_2 := (HB.out.cell (World.block_lt_of_cell? w _ hx137_2)).trans hx137_2; replace hx137_3 := (HB.out.cell (World.block_lt_of_cell? w _ hx137_3)).trans hx137_3; replace hx137_0 := (cell_far (p := ⟨gb136, 0, none⟩) (by first | (rw [add_block]; exact hn137_0) | (show (Addr.add _ _).block ≠ _; rw [add_block]; exact hn137_0) | exact hn137_0) (.int .i64 ((rd_T30 l3 x20_1).f0))).trans hx137_0; replace hx137_1 := (cell_far (p := ⟨gb136, 0, none⟩) (by first | (rw [add_block]; exact hn137_0) | (show (Addr.add _ _).block ≠ _; rw [add_block]; exact hn137_0) | exact hn137_0) (.int .i64 ((rd_T30 l3 x20_1).f0))).trans hx137_1; replace hx137_2 := (cell_far (p := ⟨gb136, 0, none⟩) (by first | (rw [add_block]; exact hn137_0) | (show (Addr.add _ _).block ≠ _; rw [add_block]; exact hn137_0) | exact hn137_0) (.int .i64 ((rd_T30 l3 x20_1).f0))).trans hx137_2; replace hx137_3 := (cell_far (p := ⟨gb136, 0, none⟩) (by first | (rw [add_block]; exact hn137_0) | (show (Addr.add _ _).block ≠ _; rw [add_block]; exact hn137_0) | exact hn137_0) (.int .i64 ((rd_T30 l3 x20_1).f0))).trans hx137_3; replace hx137_0 := (cell_far (p := ⟨gb136, 1, none⟩) (by first | (rw [add_block]; exact hn137_1) | (show (Addr.add _ _).block ≠ _; rw [add_block]; exact hn137_1) | exact hn137_1) (.int .i64 ((rd_T30 l3 x20_1).f1))).trans hx137_0; replace hx137_1 := (cell_far (p := ⟨gb136, 1, none⟩) (by first | (rw [add_block]; exact hn137_1) | (show (Addr.add _ _).block ≠ _; rw [add_block]; exact hn137_1) | exact hn137_1) (.int .i64 ((rd_T30 l3 x20_1).f1))).trans hx137_1; replace hx137_2 := (cell_far (p := ⟨gb136, 1, none⟩) (by first | (rw [add_block]; exact hn137_1) | (show (Addr.add _ _).block ≠ _; rw [add_block]; exact hn137_1) | exact hn137_1) (.int .i64 ((rd_T30 l3 x20_1).f1))).trans hx137_2; replace hx137_3 := (cell_far (p := ⟨gb136, 1, none⟩) (by first | (rw [add_block]; exact hn137_1) | (show (Addr.add _ _).block ≠ _; rw [add_block]; exact hn137_1) | exact hn137_1) (.int .i64 ((rd_T30 l3 x20_1).f1))).trans hx137_3; clear hn137_0; clear hn137_1; replace p137 := eq_true p137; replace q137 := eq_true q137) | ((with_reducible refine gate_dst (N := 12) rfl ?_); refine box_event ?hg (N := 12) ?hd (cs := #[.int .i64 0, .bool false, .int .i64 0, .string (⟨#[]⟩ : ByteArray)]) (t := 33) ?hr ?_; (case hd => rfl); (case hg => rfl); (case hr => first | (go_simp; done) | (go_simp; rfl)); intro gb138 hg w21 hbox hb; have n0_ := Aside0.mk (Kd.R_below (Kd.R_elderB (by (with_reducible repeat (first | apply Kd.R_alloc | apply Kd.R_drewN | apply Kd.R_drew)); exact (Kd.R_mono (Kd.R_far (p := ⟨gb136, 1, none⟩) (Kd.R_far (p := ⟨gb136, 0, none⟩) (Kd.R_types HO_9.out BK136.out (by decide)) (fun _ hk => hk.2) (.int .i64 ((rd_T30 l3 x20_1).f0))) (fun _ hk => hk.2) (.int .i64 ((rd_T30 l3 x20_1).f1))) (fun _ h_ => h_.1))) gb138 (Nat.le_of_eq hg.symm)) hb); have n1_ := Aside0.mk (blk_below (g := gb136) (o := .cells #[.int .i64 ((rd_T30 l3 x20_1).f0), .int .i64 ((rd_T30 l3 x20_1).f1)] 30 (0, 0)) (by (with_reducible repeat (first | refine blk_drewN ?_ _ | refine blk_drew ?_ | refine blk_alloc ?_ _)); refine blk_put (cs := #[.int .i64 ((rd_T30 l3 x20_1).f0), .int .i64 0]) ?_ 1 _ rfl; (with_reducible repeat (first | refine blk_drewN ?_ _ | refine blk_drew ?_ | refine blk_alloc ?_ _)); refine blk_put (cs := #[.int .i64 0, .int .i64 0]) ?_ 0 _ rfl; (with_reducible repeat (first | refine blk_drewN ?_ _ | refine blk_drew ?_ | refine blk_alloc ?_ _)); exact BK136.out) hb); have n2_ := Aside0.mk (below_step (by repeat (first | (with_reducible first | exact HB.out | apply below_alloc | apply pw_below_drewN | apply below_drew1 | refine below_set ?_ GE136.out) | exact HB.out)) hb); have n3_ := Aside0.mk (hbox); have n4_ := Aside0.mk ((by rw [hg]; exact (below_size (by repeat (first | (with_reducible first | exact HB.out | apply below_alloc | apply pw_below_drewN | apply below_drew1 | refine below_set ?_ GE136.out) | exact HB.out))) : w.heap.size ≤ gb138)); have n5_ := Aside0.mk ((by rw [hg]; exact (below_size (by repeat (first | (with_reducible first | exact HB.out | apply below_alloc | apply pw_below_drewN | apply below_drew1 | refine below_set ?_ GE136.out) | exact HB.out))) : w.heap.size ≤ gb138)); have n6_ := Aside0.mk ((by rw [hg]; exact Nat.ne_of_lt (blk_lt (g := gb136) (o := .cells #[.int .i64 ((rd_T30 l3 x20_1).f0), .int .i64 ((rd_T30 l3 x20_1).f1)] 30 (0, 0)) (by (with_reducible repeat (first | refine blk_drewN ?_ _ | refine blk_drew ?_ | refine blk_alloc ?_ _)); refine blk_put (cs := #[.int .i64 ((rd_T30 l3 x20_1).f0), .int .i64 0]) ?_ 1 _ rfl; (with_reducible repeat (first | refine blk_drewN ?_ _ | refine blk_drew ?_ | refine blk_alloc ?_ _)); refine blk_put (cs := #[.int .i64 0, .int .i64 0]) ?_ 0 _ rfl; (with_reducible repeat (first | refine blk_drewN ?_ _ | refine blk_drew ?_ | refine blk_alloc ?_ _)); exact BK136.out)) : gb136 ≠ gb138)); have n7_ := Aside0.mk ((by rw [hg]; exact Nat.ne_of_gt (blk_lt (g := gb136) (o := .cells #[.int .i64 ((rd_T30 l3 x20_1).f0), .int .i64 ((rd_T30 l3 x20_1).f1)] 30 (0, 0)) (by (with_reducible repeat (first | refine blk_drewN ?_ _ | refine blk_drew ?_ | refine blk_alloc ?_ _)); refine blk_put (cs := #[.int .i64 ((rd_T30 l3 x20_1).f0), .int .i64 0]) ?_ 1 _ rfl; (with_reducible repeat (first | refine blk_drewN ?_ _ | refine blk_drew ?_ | refine blk_alloc ?_ _)); refine blk_put (cs := #[.int .i64 0, .int .i64 0]) ?_ 0 _ rfl; (with_reducible repeat (first | refine blk_drewN ?_ _ | refine blk_drew ?_ | refine blk_alloc ?_ _)); exact BK136.out)) : gb138 ≠ gb136)); clear HO_9; clear BK136; clear HB; have HO_9 := n0_; have BK136 := n1_; have HB := n2_; have BK138 := n3_; have GW138 := n4_; have GE138 := n5_; have NB136_138 := n6_; have NB138_136 := n7_; clear n0_ n1_ n2_ n3_ n4_ n5_ n6_ n7_; clear hb hbox hg; have hnb22 := NB138_136.out; have hnc22 := NB136_138.out; have hcz23_0 : w21.cell? ⟨gb138, 0, none⟩ = some (.int .i64 0) := (blk_cell BK138.out 0).trans rfl; have hcz23_1 : w21.cell? ⟨gb138, 1, none⟩ = some (.bool false) := (blk_cell BK138.out 1).trans rfl; have hcz23_2 : w21.cell? ⟨gb138, 2, none⟩ = some (.int .i64 0) := (blk_cell BK138.out 2).trans rfl; have hcz23_3 : w21.cell? ⟨gb138, 3, none⟩ = some (.string (⟨#[]⟩ : ByteArray)) := (blk_cell BK138.out 3).trans rfl; have hfz23_0 := blk_frozen BK138.out 0; have hfz23_1 := blk_frozen BK138.out 1; have hfz23_2 := blk_frozen BK138.out 2; have hfz23_3 := blk_frozen BK138.out 3; have p139 : 0 ≤ ((ji13) : Int) := of_decide_eq_true (by first | (with_reducible assumption) | assumption); have q139 : (ji13) < (l1.length : Int) := of_decide_eq_true (by first | (with_reducible assumption) | assumption); obtain ⟨ad139, e139, hx139_0, hx139_1, hx139_2, hx139_3⟩ := at_T33 HR1.out (ji13) p139 q139; cases e139; have hn139_0 : ad139.block ≠ gb138 := Nat.ne_of_lt (Nat.lt_of_lt_of_le (by have := World.block_lt_of_cell? _ _ hx139_0; first | rwa [add_block] at this | exact this) GW138.out); have hn139_1 : ad139.block ≠ gb138 := Nat.ne_of_lt (Nat.lt_of_lt_of_le (by have := World.block_lt_of_cell? _ _ hx139_0; first | rwa [add_block] at this | exact this) GW138.out); have hn139_2 : ad139.block ≠ gb138 := Nat.ne_of_lt (Nat.lt_of_lt_of_le (by have := World.block_lt_of_cell? _ _ hx139_0; first | rwa [add_block] at this | exact this) GW138.out); have hn139_3 : ad139.block ≠ gb138 := Nat.ne_of_lt (Nat.lt_of_lt_of_le (by have := World.block_lt_of_cell? _ _ hx139_0; first | rwa [add_block] at this | exact this) GW138.out); replace hx139_0 := (HB.out.cell (World.block_lt_of_cell? w _ hx139_0)).trans hx139_0; replace hx139_1 := (HB.out.cell (World.block_lt_of_cell? w _ hx139_1)).trans hx139_1; replace hx139_2 := (HB.out.cell (World.block_lt_of_cell? w _ hx139_2)).trans hx139_2; replace hx139_3 := (HB.out.cell (World.block_lt_of_cell? w _ hx139_3)).trans hx139_3; replace hx139_0 := (cell_far (p := ⟨gb138, 0, none⟩) (by first | (rw [add_block]; exact hn139_0) | (show (Addr.add _ _).block ≠ _; rw [add_block]; exact hn139_0) | exact hn139_0) (.int .i64 ((rd_T33 l0 (ji13)).f0))).trans hx139_0; replace hx139_1 := (cell_far (p := ⟨gb138, 0, none⟩) (by first | (rw [add_block]; exact hn139_0) | (show (Addr.add _ _).block ≠ _; rw [add_block]; exact hn139_0) | exact hn139_0) (.int .i64 ((rd_T33 l0 (ji13)).f0))).trans hx139_1; replace hx139_2 := (cell_far (p := ⟨gb138, 0, none⟩) (by first | (rw [add_block]; exact hn139_0) | (show (Addr.add _ _).block ≠ _; rw [add_block]; exact hn139_0) | exact hn139_0) (.int .i64 ((rd_T33 l0 (ji13)).f0))).trans hx139_2; replace hx139_3 := (cell_far (p := ⟨gb138, 0, none⟩) (by first | (rw [add_block]; exact hn139_0) | (show (Addr.add _ _).block ≠ _; rw [add_block]; exact hn139_0) | exact hn139_0) (.int .i64 ((rd_T33 l0 (ji13)).f0))).trans hx139_3; replace hx139_0 := (cell_far (p := ⟨gb138, 1, none⟩) (by first | (rw [add_block]; exact hn139_1) | (show (Addr.add _ _).block ≠ _; rw [add_block]; exact hn139_1) | exact hn139_1) (.bool ((rd_T33 l0 (ji13)).f1))).trans hx139_0; replace hx139_1 := (cell_far (p := ⟨gb138, 1, none⟩) (by first | (rw [add_block]; exact hn139_1) | (show (Addr.add _ _).block ≠ _; rw [add_block]; exact hn139_1) | exact hn139_1) (.bool ((rd_T33 l0 (ji13)).f1))).trans hx139_1; replace hx139_2 := (cell_far (p := ⟨gb138, 1, none⟩) (by first | (rw [add_block]; exact hn139_1) | (show (Addr.add _ _).block ≠ _; rw [add_block]; exact hn139_1) | exact hn139_1) (.bool ((rd_T33 l0 (ji13)).f1))).trans hx139_2; replace hx139_3 := (cell_far (p := ⟨gb138, 1, none⟩) (by first | (rw [add_block]; exact hn139_1) | (show (Addr.add _ _).block ≠ _; rw [add_block]; exact hn139_1) | exact hn139_1) (.bool ((rd_T33 l0 (ji13)).f1))).trans hx139_3; replace hx139_0 := (cell_far (p := ⟨gb138, 2, none⟩) (by first | (rw [add_block]; exact hn139_2) | (show (Addr.add _ _).block ≠ _; rw [add_block]; exact hn139_2) | exact hn139_2) (.int .i64 ((rd_T33 l0 (ji13)).f2))).trans hx139_0; replace hx139_1 := (cell_far (p := ⟨gb138, 2, none⟩) (by first | (rw [add_block]; exact hn139_2) | (show (Addr.add _ _).block ≠ _; rw [add_block]; exact hn139_2) | exact hn139_2) (.int .i64 ((rd_T33 l0 (ji13)).f2))).trans hx139_1; replace hx139_2 := (cell_far (p := ⟨gb138, 2, none⟩) (by first | (rw [add_block]; exact hn139_2) | (show (Addr.add _ _).block ≠ _; rw [add_block]; exact hn139_2) | exact hn139_2) (.int .i64 ((rd_T33 l0 (ji13)).f2))).trans hx139_2; replace hx139_3 := (cell_far (p := ⟨gb138, 2, none⟩) (by first | (rw [add_block]; exact hn139_2) | (show (Addr.add _ _).block ≠ _; rw [add_block]; exact hn139_2) | exact hn139_2) (.int .i64 ((rd_T33 l0 (ji13)).f2))).trans hx139_3; replace hx139_0 := (cell_far (p := ⟨gb138, 3, none⟩) (by first | (rw [add_block]; exact hn139_3) | (show (Addr.add _ _).block ≠ _; rw [add_block]; exact hn139_3) | exact hn139_3) (.string ((rd_T33 l0 (ji13)).f3))).trans hx139_0; replace hx139_1 := (cell_far (p := ⟨gb138, 3, none⟩) (by first | (rw [add_block]; exact hn139_3) | (show (Addr.add _ _).block ≠ _; rw [add_block]; exact hn139_3) | exact hn139_3) (.string ((rd_T33 l0 (ji13)).f3))).trans hx139_1; replace hx139_2 := (cell_far (p := ⟨gb138, 3, none⟩) (by first | (rw [add_block]; exact hn139_3) | (show (Addr.add _ _).block ≠ _; rw [add_block]; exact hn139_3) | exact hn139_3) (.string ((rd_T33 l0 (ji13)).f3))).trans hx139_2; replace hx139_3 := (cell_far (p := ⟨gb138, 3, none⟩) (by first | (rw [add_block]; exact hn139_3) | (show (Addr.add _ _).block ≠ _; rw [add_block]; exact hn139_3) | exact hn139_3) (.string ((rd_T33 l0 (ji13)).f3))).trans hx139_3; clear hn139_0; clear hn139_1; clear hn139_2; clear hn139_3; replace p139 := eq_true p139; replace q139 := eq_true q139) | ((with_reducible refine gate_dst (N := 13) rfl ?_); refine box_event ?hg (N := 13) ?hd (cs := #[.int .i64 0, .bool false, .int .i64 0, .string (⟨#[]⟩ : ByteArray)]) (t := 33) ?hr ?_; (case hd => rfl); (case hg => rfl); (case hr => first | (go_simp; done) | (go_simp; rfl)); intro gb140 hg w24 hbox hb; have n0_ := Aside0.mk (Kd.R_below (Kd.R_elderB (by (with_reducible repeat (first | apply Kd.R_alloc | apply Kd.R_drewN | apply Kd.R_drew)); exact (Kd.R_mono (Kd.R_far (p := ⟨gb138, 3, none⟩) (Kd.R_far (p := ⟨gb138, 2, none⟩) (Kd.R_far (p := ⟨gb138, 1, none⟩) (Kd.R_far (p := ⟨gb138, 0, none⟩) (Kd.R_mono HO_9.out (fun k_ hk => (⟨hk, hk.2⟩ : _ ∧ k_ ≠ gb138))) (fun _ hk => hk.2) (.int .i64 ((rd_T33 l0 (ji13)).f0))) (fun _ hk => hk.2) (.bool ((rd_T33 l0 (ji13)).f1))) (fun _ hk => hk.2) (.int .i64 ((rd_T33 l0 (ji13)).f2))) (fun _ hk => hk.2) (.string ((rd_T33 l0 (ji13)).f3))) (fun _ h_ => h_.1))) gb140 (Nat.le_of_eq hg.symm)) hb); have n1_ := Aside0.mk (blk_below (g := gb136) (o := .cells #[.int .i64 ((rd_T30 l3 x20_1).f0), .int .i64 ((rd_T30 l3 x20_1).f1)] 30 (0, 0)) (by (with_reducible repeat (first | refine blk_drewN ?_ _ | refine blk_drew ?_ | refine blk_alloc ?_ _)); refine blk_far ?_ NB136_138.out _; (with_reducible repeat (first | refine blk_drewN ?_ _ | refine blk_drew ?_ | refine blk_alloc ?_ _)); refine blk_far ?_ NB136_138.out _; (with_reducible repeat (first | refine blk_drewN ?_ _ | refine blk_drew ?_ | refine blk_alloc ?_ _)); refine blk_far ?_ NB136_138.out _; (with_reducible repeat (first | refine blk_drewN ?_ _ | refine blk_drew ?_ | refine blk_alloc ?_ _)); refine blk_far ?_ NB136_138.out _; (with_reducible repeat (first | refine blk_drewN ?_ _ | refine blk_drew ?_ | refine blk_alloc ?_ _)); exact BK136.out) hb); have n2_ := Aside0.mk (blk_below (g := gb138) (o := .cells #[.int .i64 ((rd_T33 l0 (ji13)).f0), .bool ((rd_T33 l0 (ji13)).f1), .int .i64 ((rd_T33 l0 (ji13)).f2), .string ((rd_T33 l0 (ji13)).f3)] 33 (0, 0)) (by (with_reducible repeat (first | refine blk_drewN ?_ _ | refine blk_drew ?_ | refine blk_alloc ?_ _)); refine blk_put (cs := #[.int .i64 ((rd_T33 l0 (ji13)).f0), .bool ((rd_T33 l0 (ji13)).f1), .int .i64 ((rd_T33 l0 (ji13)).f2), .string (⟨#[]⟩ : ByteArray)]) ?_ 3 _ rfl; (with_reducible repeat (first | refine blk_drewN ?_ _ | refine blk_drew ?_ | refine blk_alloc ?_ _)); refine blk_put (cs := #[.int .i64 ((rd_T33 l0 (ji13)).f0), .bool ((rd_T33 l0 (ji13)).f1), .int .i64 0, .string (⟨#[]⟩ : ByteArray)]) ?_ 2 _ rfl; (with_reducible repeat (first | refine blk_drewN ?_ _ | refine blk_drew ?_ | refine blk_alloc ?_ _)); refine blk_put (cs := #[.int .i64 ((rd_T33 l0 (ji13)).f0), .bool false, .int .i64 0, .string (⟨#[]⟩ : ByteArray)]) ?_ 1 _ rfl; (with_reducible repeat (first | refine blk_drewN ?_ _ | refine blk_drew ?_ | refine blk_alloc ?_ _)); refine blk_put (cs := #[.int .i64 0, .bool false, .int .i64 0, .string (⟨#[]⟩ : ByteArray)]) ?_ 0 _ rfl; (with_reducible repeat (first | refine blk_drewN ?_ _ | refine blk_drew ?_ | refine blk_alloc ?_ _)); exact BK138.out) hb); have n3_ := Aside0.mk (below_step (by repeat (first | (with_reducible first | exact HB.out | apply below_alloc | apply pw_below_drewN | apply below_drew1 | refine below_set ?_ GE136.out | refine below_set ?_ GE138.out) | exact HB.out)) hb); have n4_ := Aside0.mk (hbox); have n5_ := Aside0.mk ((by rw [hg]; exact (below_size (by repeat (first | (with_reducible first | exact HB.out | apply below_alloc | apply pw_below_drewN | apply below_drew1 | refine below_set ?_ GE136.out | refine below_set ?_ GE138.out) | exact HB.out))) : w.heap.size ≤ gb140)); have n6_ := Aside0.mk ((by rw [hg]; exact (below_size (by repeat (first | (with_reducible first | exact HB.out | apply below_alloc | apply pw_below_drewN | apply below_drew1 | refine below_set ?_ GE136.out | refine below_set ?_ GE138.out) | exact HB.out))) : w.heap.size ≤ gb140)); have n7_ := Aside0.mk ((by rw [hg]; exact Nat.ne_of_lt (blk_lt (g := gb136) (o := .cells #[.int .i64 ((rd_T30 l3 x20_1).f0), .int .i64 ((rd_T30 l3 x20_1).f1)] 30 (0, 0)) (by (with_reducible repeat (first | refine blk_drewN ?_ _ | refine blk_drew ?_ | refine blk_alloc ?_ _)); refine blk_far ?_ NB136_138.out _; (with_reducible repeat (first | refine blk_drewN ?_ _ | refine blk_drew ?_ | refine blk_alloc ?_ _)); refine blk_far ?_ NB136_138.out _; (with_reducible repeat (first | refine blk_drewN ?_ _ | refine blk_drew ?_ | refine blk_alloc ?_ _)); refine blk_far ?_ NB136_138.out _; (with_reducible repeat (first | refine blk_drewN ?_ _ | refine blk_drew ?_ | refine blk_alloc ?_ _)); refine blk_far ?_ NB136_138.out _; (with_reducible repeat (first | refine blk_drewN ?_ _ | refine blk_drew ?_ | refine blk_alloc ?_ _)); exact BK136.out)) : gb136 ≠ gb140)); have n8_ := Aside0.mk ((by rw [hg]; exact Nat.ne_of_gt (blk_lt (g := gb136) (o := .cells #[.int .i64 ((rd_T30 l3 x20_1).f0), .int .i64 ((rd_T30 l3 x20_1).f1)] 30 (0, 0)) (by (with_reducible repeat (first | refine blk_drewN ?_ _ | refine blk_drew ?_ | refine blk_alloc ?_ _)); refine blk_far ?_ NB136_138.out _; (with_reducible repeat (first | refine blk_drewN ?_ _ | refine blk_drew ?_ | refine blk_alloc ?_ _)); refine blk_far ?_ NB136_138.out _; (with_reducible repeat (first | refine blk_drewN ?_ _ | refine blk_drew ?_ | refine blk_alloc ?_ _)); refine blk_far ?_ NB136_138.out _; (with_reducible repeat (first | refine blk_drewN ?_ _ | refine blk_drew ?_ | refine blk_alloc ?_ _)); refine blk_far ?_ NB136_138.out _; (with_reducible repeat (first | refine blk_drewN ?_ _ | refine blk_drew ?_ | refine blk_alloc ?_ _)); exact BK136.out)) : gb140 ≠ gb136)); have n9_ := Aside0.mk ((by rw [hg]; exact Nat.ne_of_lt (blk_lt (g := gb138) (o := .cells #[.int .i64 ((rd_T33 l0 (ji13)).f0), .bool ((rd_T33 l0 (ji13)).f1), .int .i64 ((rd_T33 l0 (ji13)).f2), .string ((rd_T33 l0 (ji13)).f3)] 33 (0, 0)) (by (with_reducible repeat (first | refine blk_drewN ?_ _ | refine blk_drew ?_ | refine blk_alloc ?_ _)); refine blk_put (cs := #[.int .i64 ((rd_T33 l0 (ji13)).f0), .bool ((rd_T33 l0 (ji13)).f1), .int .i64 ((rd_T33 l0 (ji13)).f2), .string (⟨#[]⟩ : ByteArray)]) ?_ 3 _ rfl; (with_reducible repeat (first | refine blk_drewN ?_ _ | refine blk_drew ?_ | refine blk_alloc ?_ _)); refine blk_put (cs := #[.int .i64 ((rd_T33 l0 (ji13)).f0), .bool ((rd_T33 l0 (ji13)).f1), .int .i64 0, .string (⟨#[]⟩ : ByteArray)]) ?_ 2 _ rfl; (with_reducible repeat (first | refine blk_drewN ?_ _ | refine blk_drew ?_ | refine blk_alloc ?_ _)); refine blk_put (cs := #[.int .i64 ((rd_T33 l0 (ji13)).f0), .bool false, .int .i64 0, .string (⟨#[]⟩ : ByteArray)]) ?_ 1 _ rfl; (with_reducible repeat (first | refine blk_drewN ?_ _ | refine blk_drew ?_ | refine blk_alloc ?_ _)); refine blk_put (cs := #[.int .i64 0, .bool false, .int .i64 0, .string (⟨#[]⟩ : ByteArray)]) ?_ 0 _ rfl; (with_reducible repeat (first | refine blk_drewN ?_ _ | refine blk_drew ?_ | refine blk_alloc ?_ _)); exact BK138.out)) : gb138 ≠ gb140)); have n10_ := Aside0.mk ((by rw [hg]; exact Nat.ne_of_gt (blk_lt (g := gb138) (o := .cells #[.int .i64 ((rd_T33 l0 (ji13)).f0), .bool ((rd_T33 l0 (ji13)).f1), .int .i64 ((rd_T33 l0 (ji13)).f2), .string ((rd_T33 l0 (ji13)).f3)] 33 (0, 0)) (by (with_reducible repeat (first | refine blk_drewN ?_ _ | refine blk_drew ?_ | refine blk_alloc ?_ _)); refine blk_put (cs := #[.int .i64 ((rd_T33 l0 (ji13)).f0), .bool ((rd_T33 l0 (ji13)).f1), .int .i64 ((rd_T33 l0 (ji13)).f2), .string (⟨#[]⟩ : ByteArray)]) ?_ 3 _ rfl; (with_reducible repeat (first | refine blk_drewN ?_ _ | refine blk_drew ?_ | refine blk_alloc ?_ _)); refine blk_put (cs := #[.int .i64 ((rd_T33 l0 (ji13)).f0), .bool ((rd_T33 l0 (ji13)).f1), .int .i64 0, .string (⟨#[]⟩ : ByteArray)]) ?_ 2 _ rfl; (with_reducible repeat (first | refine blk_drewN ?_ _ | refine blk_drew ?_ | refine blk_alloc ?_ _)); refine blk_put (cs := #[.int .i64 ((rd_T33 l0 (ji13)).f0), .bool false, .int .i64 0, .string (⟨#[]⟩ : ByteArray)]) ?_ 1 _ rfl; (with_reducible repeat (first | refine blk_drewN ?_ _ | refine blk_drew ?_ | refine blk_alloc ?_ _)); refine blk_put (cs := #[.int .i64 0, .bool false, .int .i64 0, .string (⟨#[]⟩ : ByteArray)]) ?_ 0 _ rfl; (with_reducible repeat (first | refine blk_drewN ?_ _ | refine blk_drew ?_ | refine blk_alloc ?_ _)); exact BK138.out)) : gb140 ≠ gb138)); clear HO_9; clear BK136; clear BK138; clear HB; have HO_9 := n0_; have BK136 := n1_; have BK138 := n2_; have HB := n3_; have BK140 := n4_; have GW140 := n5_; have GE140 := n6_; have NB136_140 := n7_; have NB140_136 := n8_; have NB138_140 := n9_; have NB140_138 := n10_; clear n0_ n1_ n2_ n3_ n4_ n5_ n6_ n7_ n8_ n9_ n10_; clear hb hbox hg; have hnb25 := NB140_136.out; have hnc25 := NB136_140.out; have hnb26 := NB140_138.out; have hnc26 := NB138_140.out; have hcz27_0 : w24.cell? ⟨gb140, 0, none⟩ = some (.int .i64 0) := (blk_cell BK140.out 0).trans rfl; have hcz27_1 : w24.cell? ⟨gb140, 1, none⟩ = some (.bool false) := (blk_cell BK140.out 1).trans rfl; have hcz27_2 : w24.cell? ⟨gb140, 2, none⟩ = some (.int .i64 0) := (blk_cell BK140.out 2).trans rfl; have hcz27_3 : w24.cell? ⟨gb140, 3, none⟩ = some (.string (⟨#[]⟩ : ByteArray)) := (blk_cell BK140.out 3).trans rfl; have hfz27_0 := blk_frozen BK140.out 0; have hfz27_1 := blk_frozen BK140.out 1; have hfz27_2 := blk_frozen BK140.out 2; have hfz27_3 := blk_frozen BK140.out 3; have hcz28_0 : w24.cell? ⟨gb138, 0, none⟩ = some (.int .i64 ((rd_T33 l0 (ji13)).f0)) := (blk_cell BK138.out 0).trans rfl; have hcz28_1 : w24.cell? ⟨gb138, 1, none⟩ = some (.bool ((rd_T33 l0 (ji13)).f1)) := (blk_cell BK138.out 1).trans rfl; have hcz28_2 : w24.cell? ⟨gb138, 2, none⟩ = some (.int .i64 ((rd_T33 l0 (ji13)).f2)) := (blk_cell BK138.out 2).trans rfl; have hcz28_3 : w24.cell? ⟨gb138, 3, none⟩ = some (.string ((rd_T33 l0 (ji13)).f3)) := (blk_cell BK138.out 3).trans rfl; have hfz28_0 := blk_frozen BK138.out 0; have hfz28_1 := blk_frozen BK138.out 1; have hfz28_2 := blk_frozen BK138.out 2; have hfz28_3 := blk_frozen BK138.out 3) | ((with_reducible refine gate_builtin (b := .append) (xs := #[.tmp 83, .tmp 85]) rfl ?_); at_builtin; refine Kd.R_append k33 (w0 := w) w.heap.size rfl (.tmp 83) (.tmp 85) 31 33 (.agg #[(.int .i64 0), (.bool false), (.int .i64 0), (.string ⟨#[]⟩)]) 40 rfl Tryd.underlying31 info33 rfl (by decide) (by omega) u9 x9_1 (⟨(rd_T33 l1 (ji13)).f0, (rd_T33 l1 (ji13)).f1, (rd_T33 l1 (ji13)).f2, (rd_T33 l1 (ji13)).f3⟩ : S33) [.int .i64 ((rd_T33 l1 (ji13)).f0), .bool ((rd_T33 l1 (ji13)).f1), .int .i64 ((rd_T33 l1 (ji13)).f2), .string ((rd_T33 l1 (ji13)).f3)] (fun k_ => k_ ≠ gb138 ∧ k_ ≠ gb140) (fun _ => False) rfl (by first | (go_simp; done) | (go_simp; rfl)) ?aP (fun _ hk => hk.elim) ?aF ?aO ?aB ?aS ?aL ?_; (case aP => exact k33_mkM _ _ _ (⟨(rd_T33 l1 (ji13)).f0, (rd_T33 l1 (ji13)).f1, (rd_T33 l1 (ji13)).f2, (rd_T33 l1 (ji13)).f3⟩ : S33)); (case aB => exact (by repeat (first | (with_reducible first | exact HB.out | apply below_alloc | apply pw_below_drewN | apply below_drew1 | refine below_set ?_ GE136.out | refine below_set ?_ GE138.out | refine below_set ?_ GE140.out) | exact HB.out))); (case aF => exact (fun k_ hk => ⟨Kd.freshB (g := gb138) (o := .cells #[.int .i64 ((rd_T33 l1 (ji13)).f0), .bool ((rd_T33 l1 (ji13)).f1), .int .i64 ((rd_T33 l1 (ji13)).f2), .string ((rd_T33 l1 (ji13)).f3)] 33 (0, 0)) (by (with_reducible repeat (first | refine blk_drewN ?_ _ | refine blk_drew ?_ | refine blk_alloc ?_ _)); refine blk_put (cs := #[.int .i64 ((rd_T33 l1 (ji13)).f0), .bool ((rd_T33 l1 (ji13)).f1), .int .i64 ((rd_T33 l1 (ji13)).f2), .string ((rd_T33 l0 (ji13)).f3)]) ?_ 3 _ rfl; (with_reducible repeat (first | refine blk_drewN ?_ _ | refine blk_drew ?_ | refine blk_alloc ?_ _)); refine blk_put (cs := #[.int .i64 ((rd_T33 l1 (ji13)).f0), .bool ((rd_T33 l1 (ji13)).f1), .int .i64 ((rd_T33 l0 (ji13)).f2), .string ((rd_T33 l0 (ji13)).f3)]) ?_ 2 _ rfl; (with_reducible repeat (first | refine blk_drewN ?_ _ | refine blk_drew ?_ | refine blk_alloc ?_ _)); refine blk_put (cs := #[.int .i64 ((rd_T33 l1 (ji13)).f0), .bool ((rd_T33 l0 (ji13)).f1), .int .i64 ((rd_T33 l0 (ji13)).f2), .string ((rd_T33 l0 (ji13)).f3)]) ?_ 1 _ rfl; (with_reducible repeat (first | refine blk_drewN ?_ _ | refine blk_drew ?_ | refine blk_alloc ?_ _)); refine blk_put (cs := #[.int .i64 ((rd_T33 l0 (ji13)).f0), .bool ((rd_T33 l0 (ji13)).f1), .int .i64 ((rd_T33 l0 (ji13)).f2), .string ((rd_T33 l0 (ji13)).f3)]) ?_ 0 _ rfl; (with_reducible repeat (first | refine blk_drewN ?_ _ | refine blk_drew ?_ | refine blk_alloc ?_ _)); refine blk_far ?_ NB138_140.out _; (with_reducible repeat (first | refine blk_drewN ?_ _ | refine blk_drew ?_ | refine blk_alloc ?_ _)); refine blk_far ?_ NB138_140.out _; (with_reducible repeat (first | refine blk_drewN ?_ _ | refine blk_drew ?_ | refine blk_alloc ?_ _)); refine blk_far ?_ NB138_140.out _; (with_reducible repeat (first | refine blk_drewN ?_ _ | refine blk_drew ?_ | refine blk_alloc ?_ _)); refine blk_far ?_ NB138_140.out _; (with_reducible repeat (first | refine blk_drewN ?_ _ | refine blk_drew ?_ | refine blk_alloc ?_ _)); exact BK138.out) k_ hk, Kd.freshB (g := gb140) (o := .cells #[.int .i64 ((rd_T33 l1 (ji13)).f0), .bool ((rd_T33 l1 (ji13)).f1), .int .i64 ((rd_T33 l1 (ji13)).f2), .string ((rd_T33 l1 (ji13)).f3)] 33 (0, 0)) (by (with_reducible repeat (first | refine blk_drewN ?_ _ | refine blk_drew ?_ | refine blk_alloc ?_ _)); refine blk_far ?_ NB140_138.out _; (with_reducible repeat (first | refine blk_drewN ?_ _ | refine blk_drew ?_ | refine blk_alloc ?_ _)); refine blk_far ?_ NB140_138.out _; (with_reducible repeat (first | refine blk_drewN ?_ _ | refine blk_drew ?_ | refine blk_alloc ?_ _)); refine blk_far ?_ NB140_138.out _; (with_reducible repeat (first | refine blk_drewN ?_ _ | refine blk_drew ?_ | refine blk_alloc ?_ _)); refine blk_far ?_ NB140_138.out _; (with_reducible repeat (first | refine blk_drewN ?_ _ | refine blk_drew ?_ | refine blk_alloc ?_ _)); refine blk_put (cs := #[.int .i64 ((rd_T33 l1 (ji13)).f0), .bool ((rd_T33 l1 (ji13)).f1), .int .i64 ((rd_T33 l1 (ji13)).f2), .string (⟨#[]⟩ : ByteArray)]) ?_ 3 _ rfl; (with_reducible repeat (first | refine blk_drewN ?_ _ | refine blk_drew ?_ | refine blk_alloc ?_ _)); refine blk_put (cs := #[.int .i64 ((rd_T33 l1 (ji13)).f0), .bool ((rd_T33 l1 (ji13)).f1), .int .i64 0, .string (⟨#[]⟩ : ByteArray)]) ?_ 2 _ rfl; (with_reducible repeat (first | refine blk_drewN ?_ _ | refine blk_drew ?_ | refine blk_alloc ?_ _)); refine blk_put (cs := #[.int .i64 ((rd_T33 l1 (ji13)).f0), .bool false, .int .i64 0, .string (⟨#[]⟩ : ByteArray)]) ?_ 1 _ rfl; (with_reducible repeat (first | refine blk_drewN ?_ _ | refine blk_drew ?_ | refine blk_alloc ?_ _)); refine blk_put (cs := #[.int .i64 0, .bool false, .int .i64 0, .string (⟨#[]⟩ : ByteArray)]) ?_ 0 _ rfl; (with_reducible repeat (first | refine blk_drewN ?_ _ | refine blk_drew ?_ | refine blk_alloc ?_ _)); exact BK140.out) k_ hk⟩)); (case aO => exact (by (with_reducible repeat (first | apply Kd.R_alloc | apply Kd.R_drewN | apply Kd.R_drew)); exact Kd.R_mono (Kd.R_far (p := ⟨gb138, 3, none⟩) (Kd.R_far (p := ⟨gb138, 2, none⟩) (Kd.R_far (p := ⟨gb138, 1, none⟩) (Kd.R_far (p := ⟨gb138, 0, none⟩) (Kd.R_far (p := ⟨gb140, 3, none⟩) (Kd.R_far (p := ⟨gb140, 2, none⟩) (Kd.R_far (p := ⟨gb140, 1, none⟩) (Kd.R_far (p := ⟨gb140, 0, none⟩) (Kd.R_mono (Kd.R_mono HO_9.out (fun k_ hk => (⟨hk, hk.2⟩ : _ ∧ k_ ≠ gb140))) (fun k_ hk => (⟨hk, hk.1.1.2⟩ : _ ∧ k_ ≠ gb138))) (fun _ hk => hk.1.2) (.int .i64 ((rd_T33 l1 (ji13)).f0))) (fun _ hk => hk.1.2) (.bool ((rd_T33 l1 (ji13)).f1))) (fun _ hk => hk.1.2) (.int .i64 ((rd_T33 l1 (ji13)).f2))) (fun _ hk => hk.1.2) (.string ((rd_T33 l1 (ji13)).f3))) (fun _ hk => hk.2) (.int .i64 ((rd_T33 l1 (ji13)).f0))) (fun _ hk => hk.2) (.bool ((rd_T33 l1 (ji13)).f1))) (fun _ hk => hk.2) (.int .i64 ((rd_T33 l1 (ji13)).f2))) (fun _ hk => hk.2) (.string ((rd_T33 l1 (ji13)).f3))) (fun _ hk => ⟨hk.1.1.1.2, hk.1.1.2⟩))); (case aS => exact (below_size (by repeat (first | (with_reducible first | exact HB.out | apply below_alloc | apply pw_below_drewN | apply below_drew1 | refine below_set ?_ GE136.out | refine below_set ?_ GE138.out | refine below_set ?_ GE140.out) | exact HB.out)))); (case aL => have := LMc18.out; omega); intro v142 w29 ho hb hg hat; rw [← Ny141.out] at ho; have n0_ := Aside0.mk (blk_grown (g := gb136) (o := .cells #[.int .i64 ((rd_T30 l3 x20_1).f0), .int .i64 ((rd_T30 l3 x20_1).f1)] 30 (0, 0)) (by (with_reducible repeat (first | refine blk_drewN ?_ _ | refine blk_drew ?_ | refine blk_alloc ?_ _)); refine blk_far ?_ NB136_138.out _; (with_reducible repeat (first | refine blk_drewN ?_ _ | refine blk_drew ?_ | refine blk_alloc ?_ _)); refine blk_far ?_ NB136_138.out _; (with_reducible repeat (first | refine blk_drewN ?_ _ | refine blk_drew ?_ | refine blk_alloc ?_ _)); refine blk_far ?_ NB136_138.out _; (with_reducible repeat (first | refine blk_drewN ?_ _ | refine blk_drew ?_ | refine blk_alloc ?_ _)); refine blk_far ?_ NB136_138.out _; (with_reducible repeat (first | refine blk_drewN ?_ _ | refine blk_drew ?_ | refine blk_alloc ?_ _)); refine blk_far ?_ NB136_140.out _; (with_reducible repeat (first | refine blk_drewN ?_ _ | refine blk_drew ?_ | refine blk_alloc ?_ _)); refine blk_far ?_ NB136_140.out _; (with_reducible repeat (first | refine blk_drewN ?_ _ | refine blk_drew ?_ | refine blk_alloc ?_ _)); refine blk_far ?_ NB136_140.out _; (with_reducible repeat (first | refine blk_drewN ?_ _ | refine blk_drew ?_ | refine blk_alloc ?_ _)); refine blk_far ?_ NB136_140.out _; (with_reducible repeat (first | refine blk_drewN ?_ _ | refine blk_drew ?_ | refine blk_alloc ?_ _)); exact BK136.out) hg (Kd.R_ne HO_9.out BK136.out (by decide))); have n1_ := Aside0.mk (blk_grown (g := gb138) (o := .cells #[.int .i64 ((rd_T33 l1 (ji13)).f0), .bool ((rd_T33 l1 (ji13)).f1), .int .i64 ((rd_T33 l1 (ji13)).f2), .string ((rd_T33 l1 (ji13)).f3)] 33 (0, 0)) (by (with_reducible repeat (first | refine blk_drewN ?_ _ | refine blk_drew ?_ | refine blk_alloc ?_ _)); refine blk_put (cs := #[.int .i64 ((rd_T33 l1 (ji13)).f0), .bool ((rd_T33 l1 (ji13)).f1), .int .i64 ((rd_T33 l1 (ji13)).f2), .string ((rd_T33 l0 (ji13)).f3)]) ?_ 3 _ rfl; (with_reducible repeat (first | refine blk_drewN ?_ _ | refine blk_drew ?_ | refine blk_alloc ?_ _)); refine blk_put (cs := #[.int .i64 ((rd_T33 l1 (ji13)).f0), .bool ((rd_T33 l1 (ji13)).f1), .int .i64 ((rd_T33 l0 (ji13)).f2), .string ((rd_T33 l0 (ji13)).f3)]) ?_ 2 _ rfl; (with_reducible repeat (first | refine blk_drewN ?_ _ | refine blk_drew ?_ | refine blk_alloc ?_ _)); refine blk_put (cs := #[.int .i64 ((rd_T33 l1 (ji13)).f0), .bool ((rd_T33 l0 (ji13)).f1), .int .i64 ((rd_T33 l0 (ji13)).f2), .string ((rd_T33 l0 (ji13)).f3)]) ?_ 1 _ rfl; (with_reducible repeat (first | refine blk_drewN ?_ _ | refine blk_drew ?_ | refine blk_alloc ?_ _)); refine blk_put (cs := #[.int .i64 ((rd_T33 l0 (ji13)).f0), .bool ((rd_T33 l0 (ji13)).f1), .int .i64 ((rd_T33 l0 (ji13)).f2), .string ((rd_T33 l0 (ji13)).f3)]) ?_ 0 _ rfl; (with_reducible repeat (first | refine blk_drewN ?_ _ | refine blk_drew ?_ | refine blk_alloc ?_ _)); refine blk_far ?_ NB138_140.out _; (with_reducible repeat (first | refine blk_drewN ?_ _ | refine blk_drew ?_ | refine blk_alloc ?_ _)); refine blk_far ?_ NB138_140.out _; (with_reducible repeat (first | refine blk_drewN ?_ _ | refine blk_drew ?_ | refine blk_alloc ?_ _)); refine blk_far ?_ NB138_140.out _; (with_reducible repeat (first | refine blk_drewN ?_ _ | refine blk_drew ?_ | refine blk_alloc ?_ _)); refine blk_far ?_ NB138_140.out _; (with_reducible repeat (first | refine blk_drewN ?_ _ | refine blk_drew ?_ | refine blk_alloc ?_ _)); exact BK138.out) hg (Kd.R_away HO_9.out (fun _ hk => hk.1.2))); have n2_ := Aside0.mk (blk_grown (g := gb140) (o := .cells #[.int .i64 ((rd_T33 l1 (ji13)).f0), .bool ((rd_T33 l1 (ji13)).f1), .int .i64 ((rd_T33 l1 (ji13)).f2), .string ((rd_T33 l1 (ji13)).f3)] 33 (0, 0)) (by (with_reducible repeat (first | refine blk_drewN ?_ _ | refine blk_drew ?_ | refine blk_alloc ?_ _)); refine blk_far ?_ NB140_138.out _; (with_reducible repeat (first | refine blk_drewN ?_ _ | refine blk_drew ?_ | refine blk_alloc ?_ _)); refine blk_far ?_ NB140_138.out _; (with_reducible repeat (first | refine blk_drewN ?_ _ | refine blk_drew ?_ | refine blk_alloc ?_ _)); refine blk_far ?_ NB140_138.out _; (with_reducible repeat (first | refine blk_drewN ?_ _ | refine blk_drew ?_ | refine blk_alloc ?_ _)); refine blk_far ?_ NB140_138.out _; (with_reducible repeat (first | refine blk_drewN ?_ _ | refine blk_drew ?_ | refine blk_alloc ?_ _)); refine blk_put (cs := #[.int .i64 ((rd_T33 l1 (ji13)).f0), .bool ((rd_T33 l1 (ji13)).f1), .int .i64 ((rd_T33 l1 (ji13)).f2), .string (⟨#[]⟩ : ByteArray)]) ?_ 3 _ rfl; (with_reducible repeat (first | refine blk_drewN ?_ _ | refine blk_drew ?_ | refine blk_alloc ?_ _)); refine blk_put (cs := #[.int .i64 ((rd_T33 l1 (ji13)).f0), .bool ((rd_T33 l1 (ji13)).f1), .int .i64 0, .string (⟨#[]⟩ : ByteArray)]) ?_ 2 _ rfl; (with_reducible repeat (first | refine blk_drewN ?_ _ | refine blk_drew ?_ | refine blk_alloc ?_ _)); refine blk_put (cs := #[.int .i64 ((rd_T33 l1 (ji13)).f0), .bool false, .int .i64 0, .string (⟨#[]⟩ : ByteArray)]) ?_ 1 _ rfl; (with_reducible repeat (first | refine blk_drewN ?_ _ | refine blk_drew ?_ | refine blk_alloc ?_ _)); refine blk_put (cs := #[.int .i64 0, .bool false, .int .i64 0, .string (⟨#[]⟩ : ByteArray)]) ?_ 0 _ rfl; (with_reducible repeat (first | refine blk_drewN ?_ _ | refine blk_drew ?_ | refine blk_alloc ?_ _)); exact BK140.out) hg (Kd.R_away HO_9.out (fun _ hk => hk.2))); have n3_ := Aside0.mk (hb); have n4_ := Aside0.mk (ho); clear BK136; clear BK138; clear BK140; clear HB; clear HO_9; have BK136 := n0_; have BK138 := n1_; have BK140 := n2_; have HB := n3_; have HO143 := n4_; clear n0_ n1_ n2_ n3_ n4_; clear ho hb hg hat))
                          go_roundg k1
                          case measure => have := HK1.out; omega
                          case rel => exact ⟨(y141), (wrap64 (x20_1 + 1)), (by first | rfl | (simp; done) | (simp [*]; done)), H', ⟨by have := HK1.out; omega⟩, ⟨by (with_reducible repeat (first | apply Kd.R_alloc | apply Kd.R_drewN | apply Kd.R_drew)); exact Kd.R_mono HO143.out (fun _ hk => trivial)⟩, ⟨by repeat (first | (with_reducible first | exact HB.out | apply below_alloc | apply pw_below_drewN | apply below_drew1 | refine below_set ?_ GE136.out | refine below_set ?_ GE138.out | refine below_set ?_ GE140.out) | exact HB.out)⟩⟩
                        · rw [if_neg c18] at H
                          exact absurd H (by simp)
                      · rw [if_neg c17] at H
                        have c17b0 : (((rd_T33 l0 (ji13)).f0) == 0) = false := beq_eq_false_iff_ne.mpr c17
                        have c17b1 : (((rd_T33 l0 (ji13)).f0) != 0) = true := bne_iff_ne.mpr c17
                        by_cases c30 : ((rd_T33 l1 (ji13)).f0) = 0
                        · rw [if_pos c30] at H
                          have c30b0 : (((rd_T33 l1 (ji13)).f0) == 0) = true := beq_iff_eq.mpr c30
                          have c30b1 : (((rd_T33 l1 (ji13)).f0) != 0) = false := bne_eq_false_iff_eq.mpr c30
                          clear c30
                          by_cases c31 : x9_1.length < 3518437208883
                          · rw [if_pos c31] at H
                            have LMc31 := Aside0.mk c31
                            clear c31
                            obtain ⟨y144, hy144⟩ : ∃ y_ : List (S33), y_ = (x9_1 ++ [(⟨(rd_T33 l0 (ji13)).f0, (rd_T33 l0 (ji13)).f1, (rd_T33 l0 (ji13)).f2, (rd_T33 l0 (ji13)).f3⟩ : S33)]) := ⟨_, rfl⟩
                            replace H : (haylofttop_summed.l0 k1 l0 l1 a2 y144 l3 (l3.length : Int) (wrap64 (x20_1 + 1))) = some r := by first | (rw [hy144]; with_reducible exact H) | (have H2_ := (Option.bind_some _ _).symm.trans H; rw [hy144]; with_reducible exact H2_) | (have H2_ := (Option.bind_some _ _).symm.trans H; with_reducible exact H2_) | with_reducible exact H | (rw [hy144]; exact H) | exact H
                            have Ny144 := Aside0.mk hy144
                            clear hy144
                            have H' := Aside0.mk H
                            clear H
                            have p135 : 0 ≤ (x20_1 : Int) := of_decide_eq_true (by first | (with_reducible assumption) | assumption)
                            have q135 : x20_1 < (l3.length : Int) := of_decide_eq_true (by first | (with_reducible assumption) | assumption)
                            obtain ⟨ad135, e135, hx135_0, hx135_1⟩ := at_T30 HR3.out x20_1 p135 q135
                            cases e135
                            replace hx135_0 := (HB.out.cell (World.block_lt_of_cell? w _ hx135_0)).trans hx135_0
                            replace hx135_1 := (HB.out.cell (World.block_lt_of_cell? w _ hx135_1)).trans hx135_1
                            replace p135 := eq_true p135
                            replace q135 := eq_true q135
                            go_wp2_with (first | ((with_reducible refine gate_dst (N := 11) rfl ?_); refine box_event ?hg (N := 11) ?hd (cs := #[.int .i64 0, .int .i64 0]) (t := 30) ?hr ?_; (case hd => rfl); (case hg => rfl); (case hr => first | (go_simp; done) | (go_simp; rfl)); intro gb136 hg w32 hbox hb; have n0_ := Aside0.mk (Kd.R_below (by (with_reducible repeat (first | apply Kd.R_alloc | apply Kd.R_drewN | apply Kd.R_drew)); exact HO_9.out) hb); have n1_ := Aside0.mk (below_step (by repeat (first | (with_reducible first | exact HB.out | apply below_alloc | apply pw_below_drewN | apply below_drew1) | exact HB.out)) hb); have n2_ := Aside0.mk (hbox); have n3_ := Aside0.mk ((by rw [hg]; exact (below_size (by repeat (first | (with_reducible first | exact HB.out | apply below_alloc | apply pw_below_drewN | apply below_drew1) | exact HB.out))) : w.heap.size ≤ gb136)); have n4_ := Aside0.mk ((by rw [hg]; exact (below_size (by repeat (first | (with_reducible first | exact HB.out | apply below_alloc | apply pw_below_drewN | apply below_drew1) | exact HB.out))) : w.heap.size ≤ gb136)); clear HO_9; clear HB; have HO_9 := n0_; have HB := n1_; have BK136 := n2_; have GW136 := n3_; have GE136 := n4_; clear n0_ n1_ n2_ n3_ n4_; clear hb hbox hg; have hcz33_0 : w32.cell? ⟨gb136, 0, none⟩ = some (.int .i64 0) := (blk_cell BK136.out 0).trans rfl; have hcz33_1 : w32.cell? ⟨gb136, 1, none⟩ = some (.int .i64 0) := (blk_cell BK136.out 1).trans rfl; have hfz33_0 := blk_frozen BK136.out 0; have hfz33_1 := blk_frozen BK136.out 1; have p137 : 0 ≤ ((ji13) : Int) := of_decide_eq_true (by first | (with_reducible assumption) | assumption); have q137 : (ji13) < (l0.length : Int) := of_decide_eq_true (by first | (with_reducible assumption) | assumption); obtain ⟨ad137, e137, hx137_0, hx137_1, hx137_2, hx137_3⟩ := at_T33 HR0.out (ji13) p137 q137; cases e137; have hn137_0 : ad137.block ≠ gb136 := Nat.ne_of_lt (Nat.lt_of_lt_of_le (by have := World.block_lt_of_cell? _ _ hx137_0; first | rwa [add_block] at this | exact this) GW136.out); have hn137_1 : ad137.block ≠ gb136 := Nat.ne_of_lt (Nat.lt_of_lt_of_le (by have := World.block_lt_of_cell? _ _ hx137_0; first | rwa [add_block] at this | exact this) GW136.out); replace hx137_0 := (HB.out.cell (World.block_lt_of_cell? w _ hx137_0)).trans hx137_0; replace hx137_1 := (HB.out.cell (World.block_lt_of_cell? w _ hx137_1)).trans hx137_1; replace hx137_2 := (HB.out.cell (World.block_lt_of_cell? w _ hx137_2)).trans hx137_2; replace hx137_3 := (HB.out.cell (World.block_lt_of_cell? w _ hx137_3)).trans hx137_3; replace hx137_0 := (cell_far (p := ⟨gb136, 0, none⟩) (by first | (rw [add_block]; exact hn137_0) | (show (Addr.add _ _).block ≠ _; rw [add_block]; exact hn137_0) | exact hn137_0) (.int .i64 ((rd_T30 l3 x20_1).f0))).trans hx137_0; replace hx137_1 := (cell_far (p := ⟨gb136, 0, none⟩) (by first | (rw [add_block]; exact hn137_0) | (show (Addr.add _ _).block ≠ _; rw [add_block]; exact hn137_0) | exact hn137_0) (.int .i64 ((rd_T30 l3 x20_1).f0))).trans hx137_1; replace hx137_2 := (cell_far (p := ⟨gb136, 0, none⟩) (by first | (rw [add_block]; exact hn137_0) | (show (Addr.add _ _).block ≠ _; rw [add_block]; exact hn137_0) | exact hn137_0) (.int .i64 ((rd_T30 l3 x20_1).f0))).trans hx137_2; replace hx137_3 := (cell_far (p := ⟨gb136, 0, none⟩) (by first | (rw [add_block]; exact hn137_0) | (show (Addr.add _ _).block ≠ _; rw [add_block]; exact hn137_0) | exact hn137_0) (.int .i64 ((rd_T30 l3 x20_1).f0))).trans hx137_3; replace hx137_0 := (cell_far (p := ⟨gb136, 1, none⟩) (by first | (rw [add_block]; exact hn137_1) | (show (Addr.add _ _).block ≠ _; rw [add_block]; exact hn137_1) | exact hn137_1) (.int .i64 ((rd_T30 l3 x20_1).f1))).trans hx137_0; replace hx137_1 := (cell_far (p := ⟨gb136, 1, none⟩) (by first | (rw [add_block]; exact hn137_1) | (show (Addr.add _ _).block ≠ _; rw [add_block]; exact hn137_1) | exact hn137_1) (.int .i64 ((rd_T30 l3 x20_1).f1))).trans hx137_1; replace hx137_2 := (cell_far (p := ⟨gb136, 1, none⟩) (by first | (rw [add_block]; exact hn137_1) | (show (Addr.add _ _).block ≠ _; rw [add_block]; exact hn137_1) | exact hn137_1) (.int .i64 ((rd_T30 l3 x20_1).f1))).trans hx137_2; replace hx137_3 := (cell_far (p := ⟨gb136, 1, none⟩) (by first | (rw [add_block]; exact hn137_1) | (show (Addr.add _ _).block ≠ _; rw [add_block]; exact hn137_1) | exact hn137_1) (.int .i64 ((rd_T30 l3 x20_1).f1))).trans hx137_3; clear hn137_0; clear hn137_1; replace p137 := eq_true p137; replace q137 := eq_true q137) | ((with_reducible refine gate_dst (N := 12) rfl ?_); refine box_event ?hg (N := 12) ?hd (cs := #[.int .i64 0, .bool false, .int .i64 0, .string (⟨#[]⟩ : ByteArray)]) (t := 33) ?hr ?_; (case hd => rfl); (case hg => rfl); (case hr => first | (go_simp; done) | (go_simp; rfl)); intro gb138 hg w34 hbox hb; have n0_ := Aside0.mk (Kd.R_below (Kd.R_elderB (by (with_reducible repeat (first | apply Kd.R_alloc | apply Kd.R_drewN | apply Kd.R_drew)); exact (Kd.R_mono (Kd.R_far (p := ⟨gb136, 1, none⟩) (Kd.R_far (p := ⟨gb136, 0, none⟩) (Kd.R_types HO_9.out BK136.out (by decide)) (fun _ hk => hk.2) (.int .i64 ((rd_T30 l3 x20_1).f0))) (fun _ hk => hk.2) (.int .i64 ((rd_T30 l3 x20_1).f1))) (fun _ h_ => h_.1))) gb138 (Nat.le_of_eq hg.symm)) hb); have n1_ := Aside0.mk (blk_below (g := gb136) (o := .cells #[.int .i64 ((rd_T30 l3 x20_1).f0), .int .i64 ((rd_T30 l3 x20_1).f1)] 30 (0, 0)) (by (with_reducible repeat (first | refine blk_drewN ?_ _ | refine blk_drew ?_ | refine blk_alloc ?_ _)); refine blk_put (cs := #[.int .i64 ((rd_T30 l3 x20_1).f0), .int .i64 0]) ?_ 1 _ rfl; (with_reducible repeat (first | refine blk_drewN ?_ _ | refine blk_drew ?_ | refine blk_alloc ?_ _)); refine blk_put (cs := #[.int .i64 0, .int .i64 0]) ?_ 0 _ rfl; (with_reducible repeat (first | refine blk_drewN ?_ _ | refine blk_drew ?_ | refine blk_alloc ?_ _)); exact BK136.out) hb); have n2_ := Aside0.mk (below_step (by repeat (first | (with_reducible first | exact HB.out | apply below_alloc | apply pw_below_drewN | apply below_drew1 | refine below_set ?_ GE136.out) | exact HB.out)) hb); have n3_ := Aside0.mk (hbox); have n4_ := Aside0.mk ((by rw [hg]; exact (below_size (by repeat (first | (with_reducible first | exact HB.out | apply below_alloc | apply pw_below_drewN | apply below_drew1 | refine below_set ?_ GE136.out) | exact HB.out))) : w.heap.size ≤ gb138)); have n5_ := Aside0.mk ((by rw [hg]; exact (below_size (by repeat (first | (with_reducible first | exact HB.out | apply below_alloc | apply pw_below_drewN | apply below_drew1 | refine below_set ?_ GE136.out) | exact HB.out))) : w.heap.size ≤ gb138)); have n6_ := Aside0.mk ((by rw [hg]; exact Nat.ne_of_lt (blk_lt (g := gb136) (o := .cells #[.int .i64 ((rd_T30 l3 x20_1).f0), .int .i64 ((rd_T30 l3 x20_1).f1)] 30 (0, 0)) (by (with_reducible repeat (first | refine blk_drewN ?_ _ | refine blk_drew ?_ | refine blk_alloc ?_ _)); refine blk_put (cs := #[.int .i64 ((rd_T30 l3 x20_1).f0), .int .i64 0]) ?_ 1 _ rfl; (with_reducible repeat (first | refine blk_drewN ?_ _ | refine blk_drew ?_ | refine blk_alloc ?_ _)); refine blk_put (cs := #[.int .i64 0, .int .i64 0]) ?_ 0 _ rfl; (with_reducible repeat (first | refine blk_drewN ?_ _ | refine blk_drew ?_ | refine blk_alloc ?_ _)); exact BK136.out)) : gb136 ≠ gb138)); have n7_ := Aside0.mk ((by rw [hg]; exact Nat.ne_of_gt (blk_lt (g := gb136) (o := .cells #[.int .i64 ((rd_T30 l3 x20_1).f0), .int .i64 ((rd_T30 l3 x20_1).f1)] 30 (0, 0)) (by (with_reducible repeat (first | refine blk_drewN ?_ _ | refine blk_drew ?_ | refine blk_alloc ?_ _)); refine blk_put (cs := #[.int .i64 ((rd_T30 l3 x20_1).f0), .int .i64 0]) ?_ 1 _ rfl; (with_reducible repeat (first | refine blk_drewN ?_ _ | refine blk_drew ?_ | refine blk_alloc ?_ _)); refine blk_put (cs := #[.int .i64 0, .int .i64 0]) ?_ 0 _ rfl; (with_reducible repeat (first | refine blk_drewN ?_ _ | refine blk_drew ?_ | refine blk_alloc ?_ _)); exact BK136.out)) : gb138 ≠ gb136)); clear HO_9; clear BK136; clear HB; have HO_9 := n0_; have BK136 := n1_; have HB := n2_; have BK138 := n3_; have GW138 := n4_; have GE138 := n5_; have NB136_138 := n6_; have NB138_136 := n7_; clear n0_ n1_ n2_ n3_ n4_ n5_ n6_ n7_; clear hb hbox hg; have hnb35 := NB138_136.out; have hnc35 := NB136_138.out; have hcz36_0 : w34.cell? ⟨gb138, 0, none⟩ = some (.int .i64 0) := (blk_cell BK138.out 0).trans rfl; have hcz36_1 : w34.cell? ⟨gb138, 1, none⟩ = some (.bool false) := (blk_cell BK138.out 1).trans rfl; have hcz36_2 : w34.cell? ⟨gb138, 2, none⟩ = some (.int .i64 0) := (blk_cell BK138.out 2).trans rfl; have hcz36_3 : w34.cell? ⟨gb138, 3, none⟩ = some (.string (⟨#[]⟩ : ByteArray)) := (blk_cell BK138.out 3).trans rfl; have hfz36_0 := blk_frozen BK138.out 0; have hfz36_1 := blk_frozen BK138.out 1; have hfz36_2 := blk_frozen BK138.out 2; have hfz36_3 := blk_frozen BK138.out 3; have p139 : 0 ≤ ((ji13) : Int) := of_decide_eq_true (by first | (with_reducible assumption) | assumption); have q139 : (ji13) < (l1.length : Int) := of_decide_eq_true (by first | (with_reducible assumption) | assumption); obtain ⟨ad139, e139, hx139_0, hx139_1, hx139_2, hx139_3⟩ := at_T33 HR1.out (ji13) p139 q139; cases e139; have hn139_0 : ad139.block ≠ gb138 := Nat.ne_of_lt (Nat.lt_of_lt_of_le (by have := World.block_lt_of_cell? _ _ hx139_0; first | rwa [add_block] at this | exact this) GW138.out); have hn139_1 : ad139.block ≠ gb138 := Nat.ne_of_lt (Nat.lt_of_lt_of_le (by have := World.block_lt_of_cell? _ _ hx139_0; first | rwa [add_block] at this | exact this) GW138.out); have hn139_2 : ad139.block ≠ gb138 := Nat.ne_of_lt (Nat.lt_of_lt_of_le (by have := World.block_lt_of_cell? _ _ hx139_0; first | rwa [add_block] at this | exact this) GW138.out); have hn139_3 : ad139.block ≠ gb138 := Nat.ne_of_lt (Nat.lt_of_lt_of_le (by have := World.block_lt_of_cell? _ _ hx139_0; first | rwa [add_block] at this | exact this) GW138.out); replace hx139_0 := (HB.out.cell (World.block_lt_of_cell? w _ hx139_0)).trans hx139_0; replace hx139_1 := (HB.out.cell (World.block_lt_of_cell? w _ hx139_1)).trans hx139_1; replace hx139_2 := (HB.out.cell (World.block_lt_of_cell? w _ hx139_2)).trans hx139_2; replace hx139_3 := (HB.out.cell (World.block_lt_of_cell? w _ hx139_3)).trans hx139_3; replace hx139_0 := (cell_far (p := ⟨gb138, 0, none⟩) (by first | (rw [add_block]; exact hn139_0) | (show (Addr.add _ _).block ≠ _; rw [add_block]; exact hn139_0) | exact hn139_0) (.int .i64 ((rd_T33 l0 (ji13)).f0))).trans hx139_0; replace hx139_1 := (cell_far (p := ⟨gb138, 0, none⟩) (by first | (rw [add_block]; exact hn139_0) | (show (Addr.add _ _).block ≠ _; rw [add_block]; exact hn139_0) | exact hn139_0) (.int .i64 ((rd_T33 l0 (ji13)).f0))).trans hx139_1; replace hx139_2 := (cell_far (p := ⟨gb138, 0, none⟩) (by first | (rw [add_block]; exact hn139_0) | (show (Addr.add _ _).block ≠ _; rw [add_block]; exact hn139_0) | exact hn139_0) (.int .i64 ((rd_T33 l0 (ji13)).f0))).trans hx139_2; replace hx139_3 := (cell_far (p := ⟨gb138, 0, none⟩) (by first | (rw [add_block]; exact hn139_0) | (show (Addr.add _ _).block ≠ _; rw [add_block]; exact hn139_0) | exact hn139_0) (.int .i64 ((rd_T33 l0 (ji13)).f0))).trans hx139_3; replace hx139_0 := (cell_far (p := ⟨gb138, 1, none⟩) (by first | (rw [add_block]; exact hn139_1) | (show (Addr.add _ _).block ≠ _; rw [add_block]; exact hn139_1) | exact hn139_1) (.bool ((rd_T33 l0 (ji13)).f1))).trans hx139_0; replace hx139_1 := (cell_far (p := ⟨gb138, 1, none⟩) (by first | (rw [add_block]; exact hn139_1) | (show (Addr.add _ _).block ≠ _; rw [add_block]; exact hn139_1) | exact hn139_1) (.bool ((rd_T33 l0 (ji13)).f1))).trans hx139_1; replace hx139_2 := (cell_far (p := ⟨gb138, 1, none⟩) (by first | (rw [add_block]; exact hn139_1) | (show (Addr.add _ _).block ≠ _; rw [add_block]; exact hn139_1) | exact hn139_1) (.bool ((rd_T33 l0 (ji13)).f1))).trans hx139_2; replace hx139_3 := (cell_far (p := ⟨gb138, 1, none⟩) (by first | (rw [add_block]; exact hn139_1) | (show (Addr.add _ _).block ≠ _; rw [add_block]; exact hn139_1) | exact hn139_1) (.bool ((rd_T33 l0 (ji13)).f1))).trans hx139_3; replace hx139_0 := (cell_far (p := ⟨gb138, 2, none⟩) (by first | (rw [add_block]; exact hn139_2) | (show (Addr.add _ _).block ≠ _; rw [add_block]; exact hn139_2) | exact hn139_2) (.int .i64 ((rd_T33 l0 (ji13)).f2))).trans hx139_0; replace hx139_1 := (cell_far (p := ⟨gb138, 2, none⟩) (by first | (rw [add_block]; exact hn139_2) | (show (Addr.add _ _).block ≠ _; rw [add_block]; exact hn139_2) | exact hn139_2) (.int .i64 ((rd_T33 l0 (ji13)).f2))).trans hx139_1; replace hx139_2 := (cell_far (p := ⟨gb138, 2, none⟩) (by first | (rw [add_block]; exact hn139_2) | (show (Addr.add _ _).block ≠ _; rw [add_block]; exact hn139_2) | exact hn139_2) (.int .i64 ((rd_T33 l0 (ji13)).f2))).trans hx139_2; replace hx139_3 := (cell_far (p := ⟨gb138, 2, none⟩) (by first | (rw [add_block]; exact hn139_2) | (show (Addr.add _ _).block ≠ _; rw [add_block]; exact hn139_2) | exact hn139_2) (.int .i64 ((rd_T33 l0 (ji13)).f2))).trans hx139_3; replace hx139_0 := (cell_far (p := ⟨gb138, 3, none⟩) (by first | (rw [add_block]; exact hn139_3) | (show (Addr.add _ _).block ≠ _; rw [add_block]; exact hn139_3) | exact hn139_3) (.string ((rd_T33 l0 (ji13)).f3))).trans hx139_0; replace hx139_1 := (cell_far (p := ⟨gb138, 3, none⟩) (by first | (rw [add_block]; exact hn139_3) | (show (Addr.add _ _).block ≠ _; rw [add_block]; exact hn139_3) | exact hn139_3) (.string ((rd_T33 l0 (ji13)).f3))).trans hx139_1; replace hx139_2 := (cell_far (p := ⟨gb138, 3, none⟩) (by first | (rw [add_block]; exact hn139_3) | (show (Addr.add _ _).block ≠ _; rw [add_block]; exact hn139_3) | exact hn139_3) (.string ((rd_T33 l0 (ji13)).f3))).trans hx139_2; replace hx139_3 := (cell_far (p := ⟨gb138, 3, none⟩) (by first | (rw [add_block]; exact hn139_3) | (show (Addr.add _ _).block ≠ _; rw [add_block]; exact hn139_3) | exact hn139_3) (.string ((rd_T33 l0 (ji13)).f3))).trans hx139_3; clear hn139_0; clear hn139_1; clear hn139_2; clear hn139_3; replace p139 := eq_true p139; replace q139 := eq_true q139) | ((with_reducible refine gate_dst (N := 13) rfl ?_); refine box_event ?hg (N := 13) ?hd (cs := #[.int .i64 0, .bool false, .int .i64 0, .string (⟨#[]⟩ : ByteArray)]) (t := 33) ?hr ?_; (case hd => rfl); (case hg => rfl); (case hr => first | (go_simp; done) | (go_simp; rfl)); intro gb140 hg w37 hbox hb; have n0_ := Aside0.mk (Kd.R_below (Kd.R_elderB (by (with_reducible repeat (first | apply Kd.R_alloc | apply Kd.R_drewN | apply Kd.R_drew)); exact (Kd.R_mono (Kd.R_far (p := ⟨gb138, 3, none⟩) (Kd.R_far (p := ⟨gb138, 2, none⟩) (Kd.R_far (p := ⟨gb138, 1, none⟩) (Kd.R_far (p := ⟨gb138, 0, none⟩) (Kd.R_mono HO_9.out (fun k_ hk => (⟨hk, hk.2⟩ : _ ∧ k_ ≠ gb138))) (fun _ hk => hk.2) (.int .i64 ((rd_T33 l0 (ji13)).f0))) (fun _ hk => hk.2) (.bool ((rd_T33 l0 (ji13)).f1))) (fun _ hk => hk.2) (.int .i64 ((rd_T33 l0 (ji13)).f2))) (fun _ hk => hk.2) (.string ((rd_T33 l0 (ji13)).f3))) (fun _ h_ => h_.1))) gb140 (Nat.le_of_eq hg.symm)) hb); have n1_ := Aside0.mk (blk_below (g := gb136) (o := .cells #[.int .i64 ((rd_T30 l3 x20_1).f0), .int .i64 ((rd_T30 l3 x20_1).f1)] 30 (0, 0)) (by (with_reducible repeat (first | refine blk_drewN ?_ _ | refine blk_drew ?_ | refine blk_alloc ?_ _)); refine blk_far ?_ NB136_138.out _; (with_reducible repeat (first | refine blk_drewN ?_ _ | refine blk_drew ?_ | refine blk_alloc ?_ _)); refine blk_far ?_ NB136_138.out _; (with_reducible repeat (first | refine blk_drewN ?_ _ | refine blk_drew ?_ | refine blk_alloc ?_ _)); refine blk_far ?_ NB136_138.out _; (with_reducible repeat (first | refine blk_drewN ?_ _ | refine blk_drew ?_ | refine blk_alloc ?_ _)); refine blk_far ?_ NB136_138.out _; (with_reducible repeat (first | refine blk_drewN ?_ _ | refine blk_drew ?_ | refine blk_alloc ?_ _)); exact BK136.out) hb); have n2_ := Aside0.mk (blk_below (g := gb138) (o := .cells #[.int .i64 ((rd_T33 l0 (ji13)).f0), .bool ((rd_T33 l0 (ji13)).f1), .int .i64 ((rd_T33 l0 (ji13)).f2), .string ((rd_T33 l0 (ji13)).f3)] 33 (0, 0)) (by (with_reducible repeat (first | refine blk_drewN ?_ _ | refine blk_drew ?_ | refine blk_alloc ?_ _)); refine blk_put (cs := #[.int .i64 ((rd_T33 l0 (ji13)).f0), .bool ((rd_T33 l0 (ji13)).f1), .int .i64 ((rd_T33 l0 (ji13)).f2), .string (⟨#[]⟩ : ByteArray)]) ?_ 3 _ rfl; (with_reducible repeat (first | refine blk_drewN ?_ _ | refine blk_drew ?_ | refine blk_alloc ?_ _)); refine blk_put (cs := #[.int .i64 ((rd_T33 l0 (ji13)).f0), .bool ((rd_T33 l0 (ji13)).f1), .int .i64 0, .string (⟨#[]⟩ : ByteArray)]) ?_ 2 _ rfl; (with_reducible repeat (first | refine blk_drewN ?_ _ | refine blk_drew ?_ | refine blk_alloc ?_ _)); refine blk_put (cs := #[.int .i64 ((rd_T33 l0 (ji13)).f0), .bool false, .int .i64 0, .string (⟨#[]⟩ : ByteArray)]) ?_ 1 _ rfl; (with_reducible repeat (first | refine blk_drewN ?_ _ | refine blk_drew ?_ | refine blk_alloc ?_ _)); refine blk_put (cs := #[.int .i64 0, .bool false, .int .i64 0, .string (⟨#[]⟩ : ByteArray)]) ?_ 0 _ rfl; (with_reducible repeat (first | refine blk_drewN ?_ _ | refine blk_drew ?_ | refine blk_alloc ?_ _)); exact BK138.out) hb); have n3_ := Aside0.mk (below_step (by repeat (first | (with_reducible first | exact HB.out | apply below_alloc | apply pw_below_drewN | apply below_drew1 | refine below_set ?_ GE136.out | refine below_set ?_ GE138.out) | exact HB.out)) hb); have n4_ := Aside0.mk (hbox); have n5_ := Aside0.mk ((by rw [hg]; exact (below_size (by repeat (first | (with_reducible first | exact HB.out | apply below_alloc | apply pw_below_drewN | apply below_drew1 | refine below_set ?_ GE136.out | refine below_set ?_ GE138.out) | exact HB.out))) : w.heap.size ≤ gb140)); have n6_ := Aside0.mk ((by rw [hg]; exact (below_size (by repeat (first | (with_reducible first | exact HB.out | apply below_alloc | apply pw_below_drewN | apply below_drew1 | refine below_set ?_ GE136.out | refine below_set ?_ GE138.out) | exact HB.out))) : w.heap.size ≤ gb140)); have n7_ := Aside0.mk ((by rw [hg]; exact Nat.ne_of_lt (blk_lt (g := gb136) (o := .cells #[.int .i64 ((rd_T30 l3 x20_1).f0), .int .i64 ((rd_T30 l3 x20_1).f1)] 30 (0, 0)) (by (with_reducible repeat (first | refine blk_drewN ?_ _ | refine blk_drew ?_ | refine blk_alloc ?_ _)); refine blk_far ?_ NB136_138.out _; (with_reducible repeat (first | refine blk_drewN ?_ _ | refine blk_drew ?_ | refine blk_alloc ?_ _)); refine blk_far ?_ NB136_138.out _; (with_reducible repeat (first | refine blk_drewN ?_ _ | refine blk_drew ?_ | refine blk_alloc ?_ _)); refine blk_far ?_ NB136_138.out _; (with_reducible repeat (first | refine blk_drewN ?_ _ | refine blk_drew ?_ | refine blk_alloc ?_ _)); refine blk_far ?_ NB136_138.out _; (with_reducible repeat (first | refine blk_drewN ?_ _ | refine blk_drew ?_ | refine blk_alloc ?_ _)); exact BK136.out)) : gb136 ≠ gb140)); have n8_ := Aside0.mk ((by rw [hg]; exact Nat.ne_of_gt (blk_lt (g := gb136) (o := .cells #[.int .i64 ((rd_T30 l3 x20_1).f0), .int .i64 ((rd_T30 l3 x20_1).f1)] 30 (0, 0)) (by (with_reducible repeat (first | refine blk_drewN ?_ _ | refine blk_drew ?_ | refine blk_alloc ?_ _)); refine blk_far ?_ NB136_138.out _; (with_reducible repeat (first | refine blk_drewN ?_ _ | refine blk_drew ?_ | refine blk_alloc ?_ _)); refine blk_far ?_ NB136_138.out _; (with_reducible repeat (first | refine blk_drewN ?_ _ | refine blk_drew ?_ | refine blk_alloc ?_ _)); refine blk_far ?_ NB136_138.out _; (with_reducible repeat (first | refine blk_drewN ?_ _ | refine blk_drew ?_ | refine blk_alloc ?_ _)); refine blk_far ?_ NB136_138.out _; (with_reducible repeat (first | refine blk_drewN ?_ _ | refine blk_drew ?_ | refine blk_alloc ?_ _)); exact BK136.out)) : gb140 ≠ gb136)); have n9_ := Aside0.mk ((by rw [hg]; exact Nat.ne_of_lt (blk_lt (g := gb138) (o := .cells #[.int .i64 ((rd_T33 l0 (ji13)).f0), .bool ((rd_T33 l0 (ji13)).f1), .int .i64 ((rd_T33 l0 (ji13)).f2), .string ((rd_T33 l0 (ji13)).f3)] 33 (0, 0)) (by (with_reducible repeat (first | refine blk_drewN ?_ _ | refine blk_drew ?_ | refine blk_alloc ?_ _)); refine blk_put (cs := #[.int .i64 ((rd_T33 l0 (ji13)).f0), .bool ((rd_T33 l0 (ji13)).f1), .int .i64 ((rd_T33 l0 (ji13)).f2), .string (⟨#[]⟩ : ByteArray)]) ?_ 3 _ rfl; (with_reducible repeat (first | refine blk_drewN ?_ _ | refine blk_drew ?_ | refine blk_alloc ?_ _)); refine blk_put (cs := #[.int .i64 ((rd_T33 l0 (ji13)).f0), .bool ((rd_T33 l0 (ji13)).f1), .int .i64 0, .string (⟨#[]⟩ : ByteArray)]) ?_ 2 _ rfl; (with_reducible repeat (first | refine blk_drewN ?_ _ | refine blk_drew ?_ | refine blk_alloc ?_ _)); refine blk_put (cs := #[.int .i64 ((rd_T33 l0 (ji13)).f0), .bool false, .int .i64 0, .string (⟨#[]⟩ : ByteArray)]) ?_ 1 _ rfl; (with_reducible repeat (first | refine blk_drewN ?_ _ | refine blk_drew ?_ | refine blk_alloc ?_ _)); refine blk_put (cs := #[.int .i64 0, .bool false, .int .i64 0, .string (⟨#[]⟩ : ByteArray)]) ?_ 0 _ rfl; (with_reducible repeat (first | refine blk_drewN ?_ _ | refine blk_drew ?_ | refine blk_alloc ?_ _)); exact BK138.out)) : gb138 ≠ gb140)); have n10_ := Aside0.mk ((by rw [hg]; exact Nat.ne_of_gt (blk_lt (g := gb138) (o := .cells #[.int .i64 ((rd_T33 l0 (ji13)).f0), .bool ((rd_T33 l0 (ji13)).f1), .int .i64 ((rd_T33 l0 (ji13)).f2), .string ((rd_T33 l0 (ji13)).f3)] 33 (0, 0)) (by (with_reducible repeat (first | refine blk_drewN ?_ _ | refine blk_drew ?_ | refine blk_alloc ?_ _)); refine blk_put (cs := #[.int .i64 ((rd_T33 l0 (ji13)).f0), .bool ((rd_T33 l0 (ji13)).f1), .int .i64 ((rd_T33 l0 (ji13)).f2), .string (⟨#[]⟩ : ByteArray)]) ?_ 3 _ rfl; (with_reducible repeat (first | refine blk_drewN ?_ _ | refine blk_drew ?_ | refine blk_alloc ?_ _)); refine blk_put (cs := #[.int .i64 ((rd_T33 l0 (ji13)).f0), .bool ((rd_T33 l0 (ji13)).f1), .int .i64 0, .string (⟨#[]⟩ : ByteArray)]) ?_ 2 _ rfl; (with_reducible repeat (first | refine blk_drewN ?_ _ | refine blk_drew ?_ | refine blk_alloc ?_ _)); refine blk_put (cs := #[.int .i64 ((rd_T33 l0 (ji13)).f0), .bool false, .int .i64 0, .string (⟨#[]⟩ : ByteArray)]) ?_ 1 _ rfl; (with_reducible repeat (first | refine blk_drewN ?_ _ | refine blk_drew ?_ | refine blk_alloc ?_ _)); refine blk_put (cs := #[.int .i64 0, .bool false, .int .i64 0, .string (⟨#[]⟩ : ByteArray)]) ?_ 0 _ rfl; (with_reducible repeat (first | refine blk_drewN ?_ _ | refine blk_drew ?_ | refine blk_alloc ?_ _)); exact BK138.out)) : gb140 ≠ gb138)); clear HO_9; clear BK136; clear BK138; clear HB; have HO_9 := n0_; have BK136 := n1_; have BK138 := n2_; have HB := n3_; have BK140 := n4_; have GW140 := n5_; have GE140 := n6_; have NB136_140 := n7_; have NB140_136 := n8_; have NB138_140 := n9_; have NB140_138 := n10_; clear n0_ n1_ n2_ n3_ n4_ n5_ n6_ n7_ n8_ n9_ n10_; clear hb hbox hg; have hnb38 := NB140_136.out; have hnc38 := NB136_140.out; have hnb39 := NB140_138.out; have hnc39 := NB138_140.out; have hcz40_0 : w37.cell? ⟨gb140, 0, none⟩ = some (.int .i64 0) := (blk_cell BK140.out 0).trans rfl; have hcz40_1 : w37.cell? ⟨gb140, 1, none⟩ = some (.bool false) := (blk_cell BK140.out 1).trans rfl; have hcz40_2 : w37.cell? ⟨gb140, 2, none⟩ = some (.int .i64 0) := (blk_cell BK140.out 2).trans rfl; have hcz40_3 : w37.cell? ⟨gb140, 3, none⟩ = some (.string (⟨#[]⟩ : ByteArray)) := (blk_cell BK140.out 3).trans rfl; have hfz40_0 := blk_frozen BK140.out 0; have hfz40_1 := blk_frozen BK140.out 1; have hfz40_2 := blk_frozen BK140.out 2; have hfz40_3 := blk_frozen BK140.out 3; have hcz41_0 : w37.cell? ⟨gb138, 0, none⟩ = some (.int .i64 ((rd_T33 l0 (ji13)).f0)) := (blk_cell BK138.out 0).trans rfl; have hcz41_1 : w37.cell? ⟨gb138, 1, none⟩ = some (.bool ((rd_T33 l0 (ji13)).f1)) := (blk_cell BK138.out 1).trans rfl; have hcz41_2 : w37.cell? ⟨gb138, 2, none⟩ = some (.int .i64 ((rd_T33 l0 (ji13)).f2)) := (blk_cell BK138.out 2).trans rfl; have hcz41_3 : w37.cell? ⟨gb138, 3, none⟩ = some (.string ((rd_T33 l0 (ji13)).f3)) := (blk_cell BK138.out 3).trans rfl; have hfz41_0 := blk_frozen BK138.out 0; have hfz41_1 := blk_frozen BK138.out 1; have hfz41_2 := blk_frozen BK138.out 2; have hfz41_3 := blk_frozen BK138.out 3) | ((with_reducible refine gate_builtin (b := .append) (xs := #[.tmp 83, .tmp 85]) rfl ?_); at_builtin; refine Kd.R_append k33 (w0 := w) w.heap.size rfl (.tmp 83) (.tmp 85) 31 33 (.agg #[(.int .i64 0), (.bool false), (.int .i64 0), (.string ⟨#[]⟩)]) 40 rfl Tryd.underlying31 info33 rfl (by decide) (by omega) u9 x9_1 (⟨(rd_T33 l0 (ji13)).f0, (rd_T33 l0 (ji13)).f1, (rd_T33 l0 (ji13)).f2, (rd_T33 l0 (ji13)).f3⟩ : S33) [.int .i64 ((rd_T33 l0 (ji13)).f0), .bool ((rd_T33 l0 (ji13)).f1), .int .i64 ((rd_T33 l0 (ji13)).f2), .string ((rd_T33 l0 (ji13)).f3)] (fun k_ => k_ ≠ gb138 ∧ k_ ≠ gb140) (fun _ => False) rfl (by first | (go_simp; done) | (go_simp; rfl)) ?aP (fun _ hk => hk.elim) ?aF ?aO ?aB ?aS ?aL ?_; (case aP => exact k33_mkM _ _ _ (⟨(rd_T33 l0 (ji13)).f0, (rd_T33 l0 (ji13)).f1, (rd_T33 l0 (ji13)).f2, (rd_T33 l0 (ji13)).f3⟩ : S33)); (case aB => exact (by repeat (first | (with_reducible first | exact HB.out | apply below_alloc | apply pw_below_drewN | apply below_drew1 | refine below_set ?_ GE136.out | refine below_set ?_ GE138.out | refine below_set ?_ GE140.out) | exact HB.out))); (case aF => exact (fun k_ hk => ⟨Kd.freshB (g := gb138) (o := .cells #[.int .i64 ((rd_T33 l0 (ji13)).f0), .bool ((rd_T33 l0 (ji13)).f1), .int .i64 ((rd_T33 l0 (ji13)).f2), .string ((rd_T33 l0 (ji13)).f3)] 33 (0, 0)) (by (with_reducible repeat (first | refine blk_drewN ?_ _ | refine blk_drew ?_ | refine blk_alloc ?_ _)); refine blk_far ?_ NB138_140.out _; (with_reducible repeat (first | refine blk_drewN ?_ _ | refine blk_drew ?_ | refine blk_alloc ?_ _)); refine blk_far ?_ NB138_140.out _; (with_reducible repeat (first | refine blk_drewN ?_ _ | refine blk_drew ?_ | refine blk_alloc ?_ _)); refine blk_far ?_ NB138_140.out _; (with_reducible repeat (first | refine blk_drewN ?_ _ | refine blk_drew ?_ | refine blk_alloc ?_ _)); refine blk_far ?_ NB138_140.out _; (with_reducible repeat (first | refine blk_drewN ?_ _ | refine blk_drew ?_ | refine blk_alloc ?_ _)); exact BK138.out) k_ hk, Kd.freshB (g := gb140) (o := .cells #[.int .i64 ((rd_T33 l1 (ji13)).f0), .bool ((rd_T33 l1 (ji13)).f1), .int .i64 ((rd_T33 l1 (ji13)).f2), .string ((rd_T33 l1 (ji13)).f3)] 33 (0, 0)) (by (with_reducible repeat (first | refine blk_drewN ?_ _ | refine blk_drew ?_ | refine blk_alloc ?_ _)); refine blk_put (cs := #[.int .i64 ((rd_T33 l1 (ji13)).f0), .bool ((rd_T33 l1 (ji13)).f1), .int .i64 ((rd_T33 l1 (ji13)).f2), .string (⟨#[]⟩ : ByteArray)]) ?_ 3 _ rfl; (with_reducible repeat (first | refine blk_drewN ?_ _ | refine blk_drew ?_ | refine blk_alloc ?_ _)); refine blk_put (cs := #[.int .i64 ((rd_T33 l1 (ji13)).f0), .bool ((rd_T33 l1 (ji13)).f1), .int .i64 0, .string (⟨#[]⟩ : ByteArray)]) ?_ 2 _ rfl; (with_reducible repeat (first | refine blk_drewN ?_ _ | refine blk_drew ?_ | refine blk_alloc ?_ _)); refine blk_put (cs := #[.int .i64 ((rd_T33 l1 (ji13)).f0), .bool false, .int .i64 0, .string (⟨#[]⟩ : ByteArray)]) ?_ 1 _ rfl; (with_reducible repeat (first | refine blk_drewN ?_ _ | refine blk_drew ?_ | refine blk_alloc ?_ _)); refine blk_put (cs := #[.int .i64 0, .bool false, .int .i64 0, .string (⟨#[]⟩ : ByteArray)]) ?_ 0 _ rfl; (with_reducible repeat (first | refine blk_drewN ?_ _ | refine blk_drew ?_ | refine blk_alloc ?_ _)); exact BK140.out) k_ hk⟩)); (case aO => exact (by (with_reducible repeat (first | apply Kd.R_alloc | apply Kd.R_drewN | apply Kd.R_drew)); exact Kd.R_mono (Kd.R_far (p := ⟨gb140, 3, none⟩) (Kd.R_far (p := ⟨gb140, 2, none⟩) (Kd.R_far (p := ⟨gb140, 1, none⟩) (Kd.R_far (p := ⟨gb140, 0, none⟩) (Kd.R_mono HO_9.out (fun k_ hk => (⟨hk, hk.2⟩ : _ ∧ k_ ≠ gb140))) (fun _ hk => hk.2) (.int .i64 ((rd_T33 l1 (ji13)).f0))) (fun _ hk => hk.2) (.bool ((rd_T33 l1 (ji13)).f1))) (fun _ hk => hk.2) (.int .i64 ((rd_T33 l1 (ji13)).f2))) (fun _ hk => hk.2) (.string ((rd_T33 l1 (ji13)).f3))) (fun _ hk => ⟨hk.1.1.2, hk.1.2⟩))); (case aS => exact (below_size (by repeat (first | (with_reducible first | exact HB.out | apply below_alloc | apply pw_below_drewN | apply below_drew1 | refine below_set ?_ GE136.out | refine below_set ?_ GE138.out | refine below_set ?_ GE140.out) | exact HB.out)))); (case aL => have := LMc31.out; omega); intro v145 w42 ho hb hg hat; rw [← Ny144.out] at ho; have n0_ := Aside0.mk (blk_grown (g := gb136) (o := .cells #[.int .i64 ((rd_T30 l3 x20_1).f0), .int .i64 ((rd_T30 l3 x20_1).f1)] 30 (0, 0)) (by (with_reducible repeat (first | refine blk_drewN ?_ _ | refine blk_drew ?_ | refine blk_alloc ?_ _)); refine blk_far ?_ NB136_140.out _; (with_reducible repeat (first | refine blk_drewN ?_ _ | refine blk_drew ?_ | refine blk_alloc ?_ _)); refine blk_far ?_ NB136_140.out _; (with_reducible repeat (first | refine blk_drewN ?_ _ | refine blk_drew ?_ | refine blk_alloc ?_ _)); refine blk_far ?_ NB136_140.out _; (with_reducible repeat (first | refine blk_drewN ?_ _ | refine blk_drew ?_ | refine blk_alloc ?_ _)); refine blk_far ?_ NB136_140.out _; (with_reducible repeat (first | refine blk_drewN ?_ _ | refine blk_drew ?_ | refine blk_alloc ?_ _)); exact BK136.out) hg (Kd.R_ne HO_9.out BK136.out (by decide))); have n1_ := Aside0.mk (blk_grown (g := gb138) (o := .cells #[.int .i64 ((rd_T33 l0 (ji13)).f0), .bool ((rd_T33 l0 (ji13)).f1), .int .i64 ((rd_T33 l0 (ji13)).f2), .string ((rd_T33 l0 (ji13)).f3)] 33 (0, 0)) (by (with_reducible repeat (first | refine blk_drewN ?_ _ | refine blk_drew ?_ | refine blk_alloc ?_ _)); refine blk_far ?_ NB138_140.out _; (with_reducible repeat (first | refine blk_drewN ?_ _ | refine blk_drew ?_ | refine blk_alloc ?_ _)); refine blk_far ?_ NB138_140.out _; (with_reducible repeat (first | refine blk_drewN ?_ _ | refine blk_drew ?_ | refine blk_alloc ?_ _)); refine blk_far ?_ NB138_140.out _; (with_reducible repeat (first | refine blk_drewN ?_ _ | refine blk_drew ?_ | refine blk_alloc ?_ _)); refine blk_far ?_ NB138_140.out _; (with_reducible repeat (first | refine blk_drewN ?_ _ | refine blk_drew ?_ | refine blk_alloc ?_ _)); exact BK138.out) hg (Kd.R_away HO_9.out (fun _ hk => hk.1.2))); have n2_ := Aside0.mk (blk_grown (g := gb140) (o := .cells #[.int .i64 ((rd_T33 l1 (ji13)).f0), .bool ((rd_T33 l1 (ji13)).f1), .int .i64 ((rd_T33 l1 (ji13)).f2), .string ((rd_T33 l1 (ji13)).f3)] 33 (0, 0)) (by (with_reducible repeat (first | refine blk_drewN ?_ _ | refine blk_drew ?_ | refine blk_alloc ?_ _)); refine blk_put (cs := #[.int .i64 ((rd_T33 l1 (ji13)).f0), .bool ((rd_T33 l1 (ji13)).f1), .int .i64 ((rd_T33 l1 (ji13)).f2), .string (⟨#[]⟩ : ByteArray)]) ?_ 3 _ rfl; (with_reducible repeat (first | refine blk_drewN ?_ _ | refine blk_drew ?_ | refine blk_alloc ?_ _)); refine blk_put (cs := #[.int .i64 ((rd_T33 l1 (ji13)).f0), .bool ((rd_T33 l1 (ji13)).f1), .int .i64 0, .string (⟨#[]⟩ : ByteArray)]) ?_ 2 _ rfl; (with_reducible repeat (first | refine blk_drewN ?_ _ | refine blk_drew ?_ | refine blk_alloc ?_ _)); refine blk_put (cs := #[.int .i64 ((rd_T33 l1 (ji13)).f0), .bool false, .int .i64 0, .string (⟨#[]⟩ : ByteArray)]) ?_ 1 _ rfl; (with_reducible repeat (first | refine blk_drewN ?_ _ | refine blk_drew ?_ | refine blk_alloc ?_ _)); refine blk_put (cs := #[.int .i64 0, .bool false, .int .i64 0, .string (⟨#[]⟩ : ByteArray)]) ?_ 0 _ rfl; (with_reducible repeat (first | refine blk_drewN ?_ _ | refine blk_drew ?_ | refine blk_alloc ?_ _)); exact BK140.out) hg (Kd.R_away HO_9.out (fun _ hk => hk.2))); have n3_ := Aside0.mk (hb); have n4_ := Aside0.mk (ho); clear BK136; clear BK138; clear BK140; clear HB; clear HO_9; have BK136 := n0_; have BK138 := n1_; have BK140 := n2_; have HB := n3_; have HO146 := n4_; clear n0_ n1_ n2_ n3_ n4_; clear ho hb hg hat))
                            go_roundg k1
                            case measure => have := HK1.out; omega
                            case rel => exact ⟨(y144), (wrap64 (x20_1 + 1)), (by first | rfl | (simp; done) | (simp [*]; done)), H', ⟨by have := HK1.out; omega⟩, ⟨by (with_reducible repeat (first | apply Kd.R_alloc | apply Kd.R_drewN | apply Kd.R_drew)); exact Kd.R_mono HO146.out (fun _ hk => trivial)⟩, ⟨by repeat (first | (with_reducible first | exact HB.out | apply below_alloc | apply pw_below_drewN | apply below_drew1 | refine below_set ?_ GE136.out | refine below_set ?_ GE138.out | refine below_set ?_ GE140.out) | exact HB.out)⟩⟩
                          · rw [if_neg c31] at H
                            exact absurd H (by simp)
                        · rw [if_neg c30] at H
                          have c30b0 : (((rd_T33 l1 (ji13)).f0) == 0) = false := beq_eq_false_iff_ne.mpr c30
                          have c30b1 : (((rd_T33 l1 (ji13)).f0) != 0) = true := bne_iff_ne.mpr c30
                          have HC43 := Aside0.mk H
                          clear H
                          have p135 : 0 ≤ (x20_1 : Int) := of_decide_eq_true (by first | (with_reducible assumption) | assumption)
                          have q135 : x20_1 < (l3.length : Int) := of_decide_eq_true (by first | (with_reducible assumption) | assumption)
                          obtain ⟨ad135, e135, hx135_0, hx135_1⟩ := at_T30 HR3.out x20_1 p135 q135
                          cases e135
                          replace hx135_0 := (HB.out.cell (World.block_lt_of_cell? w _ hx135_0)).trans hx135_0
                          replace hx135_1 := (HB.out.cell (World.block_lt_of_cell? w _ hx135_1)).trans hx135_1
                          replace p135 := eq_true p135
                          replace q135 := eq_true q135
                          go_upto_region 10 with (first | ((with_reducible refine gate_dst (N := 11) rfl ?_); refine box_event ?hg (N := 11) ?hd (cs := #[.int .i64 0, .int .i64 0]) (t := 30) ?hr ?_; (case hd => rfl); (case hg => rfl); (case hr => first | (go_simp; done) | (go_simp; rfl)); intro gb136 hg w44 hbox hb; have n0_ := Aside0.mk (Kd.R_below (by (with_reducible repeat (first | apply Kd.R_alloc | apply Kd.R_drewN | apply Kd.R_drew)); exact HO_9.out) hb); have n1_ := Aside0.mk (below_step (by repeat (first | (with_reducible first | exact HB.out | apply below_alloc | apply pw_below_drewN | apply below_drew1) | exact HB.out)) hb); have n2_ := Aside0.mk (hbox); have n3_ := Aside0.mk ((by rw [hg]; exact (below_size (by repeat (first | (with_reducible first | exact HB.out | apply below_alloc | apply pw_below_drewN | apply below_drew1) | exact HB.out))) : w.heap.size ≤ gb136)); have n4_ := Aside0.mk ((by rw [hg]; exact (below_size (by repeat (first | (with_reducible first | exact HB.out | apply below_alloc | apply pw_below_drewN | apply below_drew1) | exact HB.out))) : w.heap.size ≤ gb136)); clear HO_9; clear HB; have HO_9 := n0_; have HB := n1_; have BK136 := n2_; have GW136 := n3_; have GE136 := n4_; clear n0_ n1_ n2_ n3_ n4_; clear hb hbox hg; have hcz45_0 : w44.cell? ⟨gb136, 0, none⟩ = some (.int .i64 0) := (blk_cell BK136.out 0).trans rfl; have hcz45_1 : w44.cell? ⟨gb136, 1, none⟩ = some (.int .i64 0) := (blk_cell BK136.out 1).trans rfl; have hfz45_0 := blk_frozen BK136.out 0; have hfz45_1 := blk_frozen BK136.out 1; have p137 : 0 ≤ ((ji13) : Int) := of_decide_eq_true (by first | (with_reducible assumption) | assumption); have q137 : (ji13) < (l0.length : Int) := of_decide_eq_true (by first | (with_reducible assumption) | assumption); obtain ⟨ad137, e137, hx137_0, hx137_1, hx137_2, hx137_3⟩ := at_T33 HR0.out (ji13) p137 q137; cases e137; have hn137_0 : ad137.block ≠ gb136 := Nat.ne_of_lt (Nat.lt_of_lt_of_le (by have := World.block_lt_of_cell? _ _ hx137_0; first | rwa [add_block] at this | exact this) GW136.out); have hn137_1 : ad137.block ≠ gb136 := Nat.ne_of_lt (Nat.lt_of_lt_of_le (by have := World.block_lt_of_cell? _ _ hx137_0; first | rwa [add_block] at this | exact this) GW136.out); replace hx137_0 := (HB.out.cell (World.block_lt_of_cell? w _ hx137_0)).trans hx137_0; replace hx137_1 := (HB.out.cell (World.block_lt_of_cell? w _ hx137_1)).trans hx137_1; replace hx137_2 := (HB.out.cell (World.block_lt_of_cell? w _ hx137_2)).trans hx137_2; replace hx137_3 := (HB.out.cell (World.block_lt_of_cell? w _ hx137_3)).trans hx137_3; replace hx137_0 := (cell_far (p := ⟨gb136, 0, none⟩) (by first | (rw [add_block]; exact hn137_0) | (show (Addr.add _ _).block ≠ _; rw [add_block]; exact hn137_0) | exact hn137_0) (.int .i64 ((rd_T30 l3 x20_1).f0))).trans hx137_0; replace hx137_1 := (cell_far (p := ⟨gb136, 0, none⟩) (by first | (rw [add_block]; exact hn137_0) | (show (Addr.add _ _).block ≠ _; rw [add_block]; exact hn137_0) | exact hn137_0) (.int .i64 ((rd_T30 l3 x20_1).f0))).trans hx137_1; replace hx137_2 := (cell_far (p := ⟨gb136, 0, none⟩) (by first | (rw [add_block]; exact hn137_0) | (show (Addr.add _ _).block ≠ _; rw [add_block]; exact hn137_0) | exact hn137_0) (.int .i64 ((rd_T30 l3 x20_1).f0))).trans hx137_2; replace hx137_3 := (cell_far (p := ⟨gb136, 0, none⟩) (by first | (rw [add_block]; exact hn137_0) | (show (Addr.add _ _).block ≠ _; rw [add_block]; exact hn137_0) | exact hn137_0) (.int .i64 ((rd_T30 l3 x20_1).f0))).trans hx137_3; replace hx137_0 := (cell_far (p := ⟨gb136, 1, none⟩) (by first | (rw [add_block]; exact hn137_1) | (show (Addr.add _ _).block ≠ _; rw [add_block]; exact hn137_1) | exact hn137_1) (.int .i64 ((rd_T30 l3 x20_1).f1))).trans hx137_0; replace hx137_1 := (cell_far (p := ⟨gb136, 1, none⟩) (by first | (rw [add_block]; exact hn137_1) | (show (Addr.add _ _).block ≠ _; rw [add_block]; exact hn137_1) | exact hn137_1) (.int .i64 ((rd_T30 l3 x20_1).f1))).trans hx137_1; replace hx137_2 := (cell_far (p := ⟨gb136, 1, none⟩) (by first | (rw [add_block]; exact hn137_1) | (show (Addr.add _ _).block ≠ _; rw [add_block]; exact hn137_1) | exact hn137_1) (.int .i64 ((rd_T30 l3 x20_1).f1))).trans hx137_2; replace hx137_3 := (cell_far (p := ⟨gb136, 1, none⟩) (by first | (rw [add_block]; exact hn137_1) | (show (Addr.add _ _).block ≠ _; rw [add_block]; exact hn137_1) | exact hn137_1) (.int .i64 ((rd_T30 l3 x20_1).f1))).trans hx137_3; clear hn137_0; clear hn137_1; replace p137 := eq_true p137; replace q137 := eq_true q137) | ((with_reducible refine gate_dst (N := 12) rfl ?_); refine box_event ?hg (N := 12) ?hd (cs := #[.int .i64 0, .bool false, .int .i64 0, .string (⟨#[]⟩ : ByteArray)]) (t := 33) ?hr ?_; (case hd => rfl); (case hg => rfl); (case hr => first | (go_simp; done) | (go_simp; rfl)); intro gb138 hg w46 hbox hb; have n0_ := Aside0.mk (Kd.R_below (Kd.R_elderB (by (with_reducible repeat (first | apply Kd.R_alloc | apply Kd.R_drewN | apply Kd.R_drew)); exact (Kd.R_mono (Kd.R_far (p := ⟨gb136, 1, none⟩) (Kd.R_far (p := ⟨gb136, 0, none⟩) (Kd.R_types HO_9.out BK136.out (by decide)) (fun _ hk => hk.2) (.int .i64 ((rd_T30 l3 x20_1).f0))) (fun _ hk => hk.2) (.int .i64 ((rd_T30 l3 x20_1).f1))) (fun _ h_ => h_.1))) gb138 (Nat.le_of_eq hg.symm)) hb); have n1_ := Aside0.mk (blk_below (g := gb136) (o := .cells #[.int .i64 ((rd_T30 l3 x20_1).f0), .int .i64 ((rd_T30 l3 x20_1).f1)] 30 (0, 0)) (by (with_reducible repeat (first | refine blk_drewN ?_ _ | refine blk_drew ?_ | refine blk_alloc ?_ _)); refine blk_put (cs := #[.int .i64 ((rd_T30 l3 x20_1).f0), .int .i64 0]) ?_ 1 _ rfl; (with_reducible repeat (first | refine blk_drewN ?_ _ | refine blk_drew ?_ | refine blk_alloc ?_ _)); refine blk_put (cs := #[.int .i64 0, .int .i64 0]) ?_ 0 _ rfl; (with_reducible repeat (first | refine blk_drewN ?_ _ | refine blk_drew ?_ | refine blk_alloc ?_ _)); exact BK136.out) hb); have n2_ := Aside0.mk (below_step (by repeat (first | (with_reducible first | exact HB.out | apply below_alloc | apply pw_below_drewN | apply below_drew1 | refine below_set ?_ GE136.out) | exact HB.out)) hb); have n3_ := Aside0.mk (hbox); have n4_ := Aside0.mk ((by rw [hg]; exact (below_size (by repeat (first | (with_reducible first | exact HB.out | apply below_alloc | apply pw_below_drewN | apply below_drew1 | refine below_set ?_ GE136.out) | exact HB.out))) : w.heap.size ≤ gb138)); have n5_ := Aside0.mk ((by rw [hg]; exact (below_size (by repeat (first | (with_reducible first | exact HB.out | apply below_alloc | apply pw_below_drewN | apply below_drew1 | refine below_set ?_ GE136.out) | exact HB.out))) : w.heap.size ≤ gb138)); have n6_ := Aside0.mk ((by rw [hg]; exact Nat.ne_of_lt (blk_lt (g := gb136) (o := .cells #[.int .i64 ((rd_T30 l3 x20_1).f0), .int .i64 ((rd_T30 l3 x20_1).f1)] 30 (0, 0)) (by (with_reducible repeat (first | refine blk_drewN ?_ _ | refine blk_drew ?_ | refine blk_alloc ?_ _)); refine blk_put (cs := #[.int .i64 ((rd_T30 l3 x20_1).f0), .int .i64 0]) ?_ 1 _ rfl; (with_reducible repeat (first | refine blk_drewN ?_ _ | refine blk_drew ?_ | refine blk_alloc ?_ _)); refine blk_put (cs := #[.int .i64 0, .int .i64 0]) ?_ 0 _ rfl; (with_reducible repeat (first | refine blk_drewN ?_ _ | refine blk_drew ?_ | refine blk_alloc ?_ _)); exact BK136.out)) : gb136 ≠ gb138)); have n7_ := Aside0.mk ((by rw [hg]; exact Nat.ne_of_gt (blk_lt (g := gb136) (o := .cells #[.int .i64 ((rd_T30 l3 x20_1).f0), .int .i64 ((rd_T30 l3 x20_1).f1)] 30 (0, 0)) (by (with_reducible repeat (first | refine blk_drewN ?_ _ | refine blk_drew ?_ | refine blk_alloc ?_ _)); refine blk_put (cs := #[.int .i64 ((rd_T30 l3 x20_1).f0), .int .i64 0]) ?_ 1 _ rfl; (with_reducible repeat (first | refine blk_drewN ?_ _ | refine blk_drew ?_ | refine blk_alloc ?_ _)); refine blk_put (cs := #[.int .i64 0, .int .i64 0]) ?_ 0 _ rfl; (with_reducible repeat (first | refine blk_drewN ?_ _ | refine blk_drew ?_ | refine blk_alloc ?_ _)); exact BK136.out)) : gb138 ≠ gb136)); clear HO_9; clear BK136; clear HB; have HO_9 := n0_; have BK136 := n1_; have HB := n2_; have BK138 := n3_; have GW138 := n4_; have GE138 := n5_; have NB136_138 := n6_; have NB138_136 := n7_; clear n0_ n1_ n2_ n3_ n4_ n5_ n6_ n7_; clear hb hbox hg; have hnb47 := NB138_136.out; have hnc47 := NB136_138.out; have hcz48_0 : w46.cell? ⟨gb138, 0, none⟩ = some (.int .i64 0) := (blk_cell BK138.out 0).trans rfl; have hcz48_1 : w46.cell? ⟨gb138, 1, none⟩ = some (.bool false) := (blk_cell BK138.out 1).trans rfl; have hcz48_2 : w46.cell? ⟨gb138, 2, none⟩ = some (.int .i64 0) := (blk_cell BK138.out 2).trans rfl; have hcz48_3 : w46.cell? ⟨gb138, 3, none⟩ = some (.string (⟨#[]⟩ : ByteArray)) := (blk_cell BK138.out 3).trans rfl; have hfz48_0 := blk_frozen BK138.out 0; have hfz48_1 := blk_frozen BK138.out 1; have hfz48_2 := blk_frozen BK138.out 2; have hfz48_3 := blk_frozen BK138.out 3; have p139 : 0 ≤ ((ji13) : Int) := of_decide_eq_true (by first | (with_reducible assumption) | assumption); have q139 : (ji13) < (l1.length : Int) := of_decide_eq_true (by first | (with_reducible assumption) | assumption); obtain ⟨ad139, e139, hx139_0, hx139_1, hx139_2, hx139_3⟩ := at_T33 HR1.out (ji13) p139 q139; cases e139; have hn139_0 : ad139.block ≠ gb138 := Nat.ne_of_lt (Nat.lt_of_lt_of_le (by have := World.block_lt_of_cell? _ _ hx139_0; first | rwa [add_block] at this | exact this) GW138.out); have hn139_1 : ad139.block ≠ gb138 := Nat.ne_of_lt (Nat.lt_of_lt_of_le (by have := World.block_lt_of_cell? _ _ hx139_0; first | rwa [add_block] at this | exact this) GW138.out); have hn139_2 : ad139.block ≠ gb138 := Nat.ne_of_lt (Nat.lt_of_lt_of_le (by have := World.block_lt_of_cell? _ _ hx139_0; first | rwa [add_block] at this | exact this) GW138.out); have hn139_3 : ad139.block ≠ gb138 := Nat.ne_of_lt (Nat.lt_of_lt_of_le (by have := World.block_lt_of_cell? _ _ hx139_0; first | rwa [add_block] at this | exact this) GW138.out); replace hx139_0 := (HB.out.cell (World.block_lt_of_cell? w _ hx139_0)).trans hx139_0; replace hx139_1 := (HB.out.cell (World.block_lt_of_cell? w _ hx139_1)).trans hx139_1; replace hx139_2 := (HB.out.cell (World.block_lt_of_cell? w _ hx139_2)).trans hx139_2; replace hx139_3 := (HB.out.cell (World.block_lt_of_cell? w _ hx139_3)).trans hx139_3; replace hx139_0 := (cell_far (p := ⟨gb138, 0, none⟩) (by first | (rw [add_block]; exact hn139_0) | (show (Addr.add _ _).block ≠ _; rw [add_block]; exact hn139_0) | exact hn139_0) (.int .i64 ((rd_T33 l0 (ji13)).f0))).trans hx139_0; replace hx139_1 := (cell_far (p := ⟨gb138, 0, none⟩) (by first | (rw [add_block]; exact hn139_0) | (show (Addr.add _ _).block ≠ _; rw [add_block]; exact hn139_0) | exact hn139_0) (.int .i64 ((rd_T33 l0 (ji13)).f0))).trans hx139_1; replace hx139_2 := (cell_far (p := ⟨gb138, 0, none⟩) (by first | (rw [add_block]; exact hn139_0) | (show (Addr.add _ _).block ≠ _; rw [add_block]; exact hn139_0) | exact hn139_0) (.int .i64 ((rd_T33 l0 (ji13)).f0))).trans hx139_2; replace hx139_3 := (cell_far (p := ⟨gb138, 0, none⟩) (by first | (rw [add_block]; exact hn139_0) | (show (Addr.add _ _).block ≠ _; rw [add_block]; exact hn139_0) | exact hn139_0) (.int .i64 ((rd_T33 l0 (ji13)).f0))).trans hx139_3; replace hx139_0 := (cell_far (p := ⟨gb138, 1, none⟩) (by first | (rw [add_block]; exact hn139_1) | (show (Addr.add _ _).block ≠ _; rw [add_block]; exact hn139_1) | exact hn139_1) (.bool ((rd_T33 l0 (ji13)).f1))).trans hx139_0; replace hx139_1 := (cell_far (p := ⟨gb138, 1, none⟩) (by first | (rw [add_block]; exact hn139_1) | (show (Addr.add _ _).block ≠ _; rw [add_block]; exact hn139_1) | exact hn139_1) (.bool ((rd_T33 l0 (ji13)).f1))).trans hx139_1; replace hx139_2 := (cell_far (p := ⟨gb138, 1, none⟩) (by first | (rw [add_block]; exact hn139_1) | (show (Addr.add _ _).block ≠ _; rw [add_block]; exact hn139_1) | exact hn139_1) (.bool ((rd_T33 l0 (ji13)).f1))).trans hx139_2; replace hx139_3 := (cell_far (p := ⟨gb138, 1, none⟩) (by first | (rw [add_block]; exact hn139_1) | (show (Addr.add _ _).block ≠ _; rw [add_block]; exact hn139_1) | exact hn139_1) (.bool ((rd_T33 l0 (ji13)).f1))).trans hx139_3; replace hx139_0 := (cell_far (p := ⟨gb138, 2, none⟩) (by first | (rw [add_block]; exact hn139_2) | (show (Addr.add _ _).block ≠ _; rw [add_block]; exact hn139_2) | exact hn139_2) (.int .i64 ((rd_T33 l0 (ji13)).f2))).trans hx139_0; replace hx139_1 := (cell_far (p := ⟨gb138, 2, none⟩) (by first | (rw [add_block]; exact hn139_2) | (show (Addr.add _ _).block ≠ _; rw [add_block]; exact hn139_2) | exact hn139_2) (.int .i64 ((rd_T33 l0 (ji13)).f2))).trans hx139_1; replace hx139_2 := (cell_far (p := ⟨gb138, 2, none⟩) (by first | (rw [add_block]; exact hn139_2) | (show (Addr.add _ _).block ≠ _; rw [add_block]; exact hn139_2) | exact hn139_2) (.int .i64 ((rd_T33 l0 (ji13)).f2))).trans hx139_2; replace hx139_3 := (cell_far (p := ⟨gb138, 2, none⟩) (by first | (rw [add_block]; exact hn139_2) | (show (Addr.add _ _).block ≠ _; rw [add_block]; exact hn139_2) | exact hn139_2) (.int .i64 ((rd_T33 l0 (ji13)).f2))).trans hx139_3; replace hx139_0 := (cell_far (p := ⟨gb138, 3, none⟩) (by first | (rw [add_block]; exact hn139_3) | (show (Addr.add _ _).block ≠ _; rw [add_block]; exact hn139_3) | exact hn139_3) (.string ((rd_T33 l0 (ji13)).f3))).trans hx139_0; replace hx139_1 := (cell_far (p := ⟨gb138, 3, none⟩) (by first | (rw [add_block]; exact hn139_3) | (show (Addr.add _ _).block ≠ _; rw [add_block]; exact hn139_3) | exact hn139_3) (.string ((rd_T33 l0 (ji13)).f3))).trans hx139_1; replace hx139_2 := (cell_far (p := ⟨gb138, 3, none⟩) (by first | (rw [add_block]; exact hn139_3) | (show (Addr.add _ _).block ≠ _; rw [add_block]; exact hn139_3) | exact hn139_3) (.string ((rd_T33 l0 (ji13)).f3))).trans hx139_2; replace hx139_3 := (cell_far (p := ⟨gb138, 3, none⟩) (by first | (rw [add_block]; exact hn139_3) | (show (Addr.add _ _).block ≠ _; rw [add_block]; exact hn139_3) | exact hn139_3) (.string ((rd_T33 l0 (ji13)).f3))).trans hx139_3; clear hn139_0; clear hn139_1; clear hn139_2; clear hn139_3; replace p139 := eq_true p139; replace q139 := eq_true q139) | ((with_reducible refine gate_dst (N := 13) rfl ?_); refine box_event ?hg (N := 13) ?hd (cs := #[.int .i64 0, .bool false, .int .i64 0, .string (⟨#[]⟩ : ByteArray)]) (t := 33) ?hr ?_; (case hd => rfl); (case hg => rfl); (case hr => first | (go_simp; done) | (go_simp; rfl)); intro gb140 hg w49 hbox hb; have n0_ := Aside0.mk (Kd.R_below (Kd.R_elderB (by (with_reducible repeat (first | apply Kd.R_alloc | apply Kd.R_drewN | apply Kd.R_drew)); exact (Kd.R_mono (Kd.R_far (p := ⟨gb138, 3, none⟩) (Kd.R_far (p := ⟨gb138, 2, none⟩) (Kd.R_far (p := ⟨gb138, 1, none⟩) (Kd.R_far (p := ⟨gb138, 0, none⟩) (Kd.R_mono HO_9.out (fun k_ hk => (⟨hk, hk.2⟩ : _ ∧ k_ ≠ gb138))) (fun _ hk => hk.2) (.int .i64 ((rd_T33 l0 (ji13)).f0))) (fun _ hk => hk.2) (.bool ((rd_T33 l0 (ji13)).f1))) (fun _ hk => hk.2) (.int .i64 ((rd_T33 l0 (ji13)).f2))) (fun _ hk => hk.2) (.string ((rd_T33 l0 (ji13)).f3))) (fun _ h_ => h_.1))) gb140 (Nat.le_of_eq hg.symm)) hb); have n1_ := Aside0.mk (blk_below (g := gb136) (o := .cells #[.int .i64 ((rd_T30 l3 x20_1).f0), .int .i64 ((rd_T30 l3 x20_1).f1)] 30 (0, 0)) (by (with_reducible repeat (first | refine blk_drewN ?_ _ | refine blk_drew ?_ | refine blk_alloc ?_ _)); refine blk_far ?_ NB136_138.out _; (with_reducible repeat (first | refine blk_drewN ?_ _ | refine blk_drew ?_ | refine blk_alloc ?_ _)); refine blk_far ?_ NB136_138.out _; (with_reducible repeat (first | refine blk_drewN ?_ _ | refine blk_drew ?_ | refine blk_alloc ?_ _)); refine blk_far ?_ NB136_138.out _; (with_reducible repeat (first | refine blk_drewN ?_ _ | refine blk_drew ?_ | refine blk_alloc ?_ _)); refine blk_far ?_ NB136_138.out _; (with_reducible repeat (first | refine blk_drewN ?_ _ | refine blk_drew ?_ | refine blk_alloc ?_ _)); exact BK136.out) hb); have n2_ := Aside0.mk (blk_below (g := gb138) (o := .cells #[.int .i64 ((rd_T33 l0 (ji13)).f0), .bool ((rd_T33 l0 (ji13)).f1), .int .i64 ((rd_T33 l0 (ji13)).f2), .string ((rd_T33 l0 (ji13)).f3)] 33 (0, 0)) (by (with_reducible repeat (first | refine blk_drewN ?_ _ | refine blk_drew ?_ | refine blk_alloc ?_ _)); refine blk_put (cs := #[.int .i64 ((rd_T33 l0 (ji13)).f0), .bool ((rd_T33 l0 (ji13)).f1), .int .i64 ((rd_T33 l0 (ji13)).f2), .string (⟨#[]⟩ : ByteArray)]) ?_ 3 _ rfl; (with_reducible repeat (first | refine blk_drewN ?_ _ | refine blk_drew ?_ | refine blk_alloc ?_ _)); refine blk_put (cs := #[.int .i64 ((rd_T33 l0 (ji13)).f0), .bool ((rd_T33 l0 (ji13)).f1), .int .i64 0, .string (⟨#[]⟩ : ByteArray)]) ?_ 2 _ rfl; (with_reducible repeat (first | refine blk_drewN ?_ _ | refine blk_drew ?_ | refine blk_alloc ?_ _)); refine blk_put (cs := #[.int .i64 ((rd_T33 l0 (ji13)).f0), .bool false, .int .i64 0, .string (⟨#[]⟩ : ByteArray)]) ?_ 1 _ rfl; (with_reducible repeat (first | refine blk_drewN ?_ _ | refine blk_drew ?_ | refine blk_alloc ?_ _)); refine blk_put (cs := #[.int .i64 0, .bool false, .int .i64 0, .string (⟨#[]⟩ : ByteArray)]) ?_ 0 _ rfl; (with_reducible repeat (first | refine blk_drewN ?_ _ | refine blk_drew ?_ | refine blk_alloc ?_ _)); exact BK138.out) hb); have n3_ := Aside0.mk (below_step (by repeat (first | (with_reducible first | exact HB.out | apply below_alloc | apply pw_below_drewN | apply below_drew1 | refine below_set ?_ GE136.out | refine below_set ?_ GE138.out) | exact HB.out)) hb); have n4_ := Aside0.mk (hbox); have n5_ := Aside0.mk ((by rw [hg]; exact (below_size (by repeat (first | (with_reducible first | exact HB.out | apply below_alloc | apply pw_below_drewN | apply below_drew1 | refine below_set ?_ GE136.out | refine below_set ?_ GE138.out) | exact HB.out))) : w.heap.size ≤ gb140)); have n6_ := Aside0.mk ((by rw [hg]; exact (below_size (by repeat (first | (with_reducible first | exact HB.out | apply below_alloc | apply pw_below_drewN | apply below_drew1 | refine below_set ?_ GE136.out | refine below_set ?_ GE138.out) | exact HB.out))) : w.heap.size ≤ gb140)); have n7_ := Aside0.mk ((by rw [hg]; exact Nat.ne_of_lt (blk_lt (g := gb136) (o := .cells #[.int .i64 ((rd_T30 l3 x20_1).f0), .int .i64 ((rd_T30 l3 x20_1).f1)] 30 (0, 0)) (by (with_reducible repeat (first | refine blk_drewN ?_ _ | refine blk_drew ?_ | refine blk_alloc ?_ _)); refine blk_far ?_ NB136_138.out _; (with_reducible repeat (first | refine blk_drewN ?_ _ | refine blk_drew ?_ | refine blk_alloc ?_ _)); refine blk_far ?_ NB136_138.out _; (with_reducible repeat (first | refine blk_drewN ?_ _ | refine blk_drew ?_ | refine blk_alloc ?_ _)); refine blk_far ?_ NB136_138.out _; (with_reducible repeat (first | refine blk_drewN ?_ _ | refine blk_drew ?_ | refine blk_alloc ?_ _)); refine blk_far ?_ NB136_138.out _; (with_reducible repeat (first | refine blk_drewN ?_ _ | refine blk_drew ?_ | refine blk_alloc ?_ _)); exact BK136.out)) : gb136 ≠ gb140)); have n8_ := Aside0.mk ((by rw [hg]; exact Nat.ne_of_gt (blk_lt (g := gb136) (o := .cells #[.int .i64 ((rd_T30 l3 x20_1).f0), .int .i64 ((rd_T30 l3 x20_1).f1)] 30 (0, 0)) (by (with_reducible repeat (first | refine blk_drewN ?_ _ | refine blk_drew ?_ | refine blk_alloc ?_ _)); refine blk_far ?_ NB136_138.out _; (with_reducible repeat (first | refine blk_drewN ?_ _ | refine blk_drew ?_ | refine blk_alloc ?_ _)); refine blk_far ?_ NB136_138.out _; (with_reducible repeat (first | refine blk_drewN ?_ _ | refine blk_drew ?_ | refine blk_alloc ?_ _)); refine blk_far ?_ NB136_138.out _; (with_reducible repeat (first | refine blk_drewN ?_ _ | refine blk_drew ?_ | refine blk_alloc ?_ _)); refine blk_far ?_ NB136_138.out _; (with_reducible repeat (first | refine blk_drewN ?_ _ | refine blk_drew ?_ | refine blk_alloc ?_ _)); exact BK136.out)) : gb140 ≠ gb136)); have n9_ := Aside0.mk ((by rw [hg]; exact Nat.ne_of_lt (blk_lt (g := gb138) (o := .cells #[.int .i64 ((rd_T33 l0 (ji13)).f0), .bool ((rd_T33 l0 (ji13)).f1), .int .i64 ((rd_T33 l0 (ji13)).f2), .string ((rd_T33 l0 (ji13)).f3)] 33 (0, 0)) (by (with_reducible repeat (first | refine blk_drewN ?_ _ | refine blk_drew ?_ | refine blk_alloc ?_ _)); refine blk_put (cs := #[.int .i64 ((rd_T33 l0 (ji13)).f0), .bool ((rd_T33 l0 (ji13)).f1), .int .i64 ((rd_T33 l0 (ji13)).f2), .string (⟨#[]⟩ : ByteArray)]) ?_ 3 _ rfl; (with_reducible repeat (first | refine blk_drewN ?_ _ | refine blk_drew ?_ | refine blk_alloc ?_ _)); refine blk_put (cs := #[.int .i64 ((rd_T33 l0 (ji13)).f0), .bool ((rd_T33 l0 (ji13)).f1), .int .i64 0, .string (⟨#[]⟩ : ByteArray)]) ?_ 2 _ rfl; (with_reducible repeat (first | refine blk_drewN ?_ _ | refine blk_drew ?_ | refine blk_alloc ?_ _)); refine blk_put (cs := #[.int .i64 ((rd_T33 l0 (ji13)).f0), .bool false, .int .i64 0, .string (⟨#[]⟩ : ByteArray)]) ?_ 1 _ rfl; (with_reducible repeat (first | refine blk_drewN ?_ _ | refine blk_drew ?_ | refine blk_alloc ?_ _)); refine blk_put (cs := #[.int .i64 0, .bool false, .int .i64 0, .string (⟨#[]⟩ : ByteArray)]) ?_ 0 _ rfl; (with_reducible repeat (first | refine blk_drewN ?_ _ | refine blk_drew ?_ | refine blk_alloc ?_ _)); exact BK138.out)) : gb138 ≠ gb140)); have n10_ := Aside0.mk ((by rw [hg]; exact Nat.ne_of_gt (blk_lt (g := gb138) (o := .cells #[.int .i64 ((rd_T33 l0 (ji13)).f0), .bool ((rd_T33 l0 (ji13)).f1), .int .i64 ((rd_T33 l0 (ji13)).f2), .string ((rd_T33 l0 (ji13)).f3)] 33 (0, 0)) (by (with_reducible repeat (first | refine blk_drewN ?_ _ | refine blk_drew ?_ | refine blk_alloc ?_ _)); refine blk_put (cs := #[.int .i64 ((rd_T33 l0 (ji13)).f0), .bool ((rd_T33 l0 (ji13)).f1), .int .i64 ((rd_T33 l0 (ji13)).f2), .string (⟨#[]⟩ : ByteArray)]) ?_ 3 _ rfl; (with_reducible repeat (first | refine blk_drewN ?_ _ | refine blk_drew ?_ | refine blk_alloc ?_ _)); refine blk_put (cs := #[.int .i64 ((rd_T33 l0 (ji13)).f0), .bool ((rd_T33 l0 (ji13)).f1), .int .i64 0, .string (⟨#[]⟩ : ByteArray)]) ?_ 2 _ rfl; (with_reducible repeat (first | refine blk_drewN ?_ _ | refine blk_drew ?_ | refine blk_alloc ?_ _)); refine blk_put (cs := #[.int .i64 ((rd_T33 l0 (ji13)).f0), .bool false, .int .i64 0, .string (⟨#[]⟩ : ByteArray)]) ?_ 1 _ rfl; (with_reducible repeat (first | refine blk_drewN ?_ _ | refine blk_drew ?_ | refine blk_alloc ?_ _)); refine blk_put (cs := #[.int .i64 0, .bool false, .int .i64 0, .string (⟨#[]⟩ : ByteArray)]) ?_ 0 _ rfl; (with_reducible repeat (first | refine blk_drewN ?_ _ | refine blk_drew ?_ | refine blk_alloc ?_ _)); exact BK138.out)) : gb140 ≠ gb138)); clear HO_9; clear BK136; clear BK138; clear HB; have HO_9 := n0_; have BK136 := n1_; have BK138 := n2_; have HB := n3_; have BK140 := n4_; have GW140 := n5_; have GE140 := n6_; have NB136_140 := n7_; have NB140_136 := n8_; have NB138_140 := n9_; have NB140_138 := n10_; clear n0_ n1_ n2_ n3_ n4_ n5_ n6_ n7_ n8_ n9_ n10_; clear hb hbox hg; have hnb50 := NB140_136.out; have hnc50 := NB136_140.out; have hnb51 := NB140_138.out; have hnc51 := NB138_140.out; have hcz52_0 : w49.cell? ⟨gb140, 0, none⟩ = some (.int .i64 0) := (blk_cell BK140.out 0).trans rfl; have hcz52_1 : w49.cell? ⟨gb140, 1, none⟩ = some (.bool false) := (blk_cell BK140.out 1).trans rfl; have hcz52_2 : w49.cell? ⟨gb140, 2, none⟩ = some (.int .i64 0) := (blk_cell BK140.out 2).trans rfl; have hcz52_3 : w49.cell? ⟨gb140, 3, none⟩ = some (.string (⟨#[]⟩ : ByteArray)) := (blk_cell BK140.out 3).trans rfl; have hfz52_0 := blk_frozen BK140.out 0; have hfz52_1 := blk_frozen BK140.out 1; have hfz52_2 := blk_frozen BK140.out 2; have hfz52_3 := blk_frozen BK140.out 3; have hcz53_0 : w49.cell? ⟨gb138, 0, none⟩ = some (.int .i64 ((rd_T33 l0 (ji13)).f0)) := (blk_cell BK138.out 0).trans rfl; have hcz53_1 : w49.cell? ⟨gb138, 1, none⟩ = some (.bool ((rd_T33 l0 (ji13)).f1)) := (blk_cell BK138.out 1).trans rfl; have hcz53_2 : w49.cell? ⟨gb138, 2, none⟩ = some (.int .i64 ((rd_T33 l0 (ji13)).f2)) := (blk_cell BK138.out 2).trans rfl; have hcz53_3 : w49.cell? ⟨gb138, 3, none⟩ = some (.string ((rd_T33 l0 (ji13)).f3)) := (blk_cell BK138.out 3).trans rfl; have hfz53_0 := blk_frozen BK138.out 0; have hfz53_1 := blk_frozen BK138.out 1; have hfz53_2 := blk_frozen BK138.out 2; have hfz53_3 := blk_frozen BK138.out 3))
                          (try simp only [Act.put, List.setIfInBounds_toArray, List.set_cons_zero, List.set_cons_succ])
                          go_cut [46] (fun v46 wc => ∃ (kq : Nat) (x46_42 : Bool), v46 = .bool x46_42 ∧ Aside0 (haylofttop_summed.j1 kq l0 l1 a2 x9_1 l3 (l3.length : Int) x20_1 x46_42 ((rd_T30 l3 x20_1).f0) ((rd_T30 l3 x20_1).f1) ((rd_T33 l0 (ji13)).f0) ((rd_T33 l0 (ji13)).f1) ((rd_T33 l0 (ji13)).f2) ((rd_T33 l0 (ji13)).f3) ((rd_T33 l1 (ji13)).f0) ((rd_T33 l1 (ji13)).f1) ((rd_T33 l1 (ji13)).f2) ((rd_T33 l1 (ji13)).f3) = some r) ∧ Aside0 (kq ≤ k1) ∧ Aside0 (Kd.R k33 33 wc w.heap.size (fun k_ => k_ ≠ gb138 ∧ k_ ≠ gb140) u9 x9_1) ∧ Aside0 (wc.heap[gb136]? = some (.cells #[.int .i64 ((rd_T30 l3 x20_1).f0), .int .i64 ((rd_T30 l3 x20_1).f1)] 30 (0, 0))) ∧ Aside0 (wc.heap[gb138]? = some (.cells #[.int .i64 ((rd_T33 l0 (ji13)).f0), .bool ((rd_T33 l0 (ji13)).f1), .int .i64 ((rd_T33 l0 (ji13)).f2), .string ((rd_T33 l0 (ji13)).f3)] 33 (0, 0))) ∧ Aside0 (wc.heap[gb140]? = some (.cells #[.int .i64 ((rd_T33 l1 (ji13)).f0), .bool ((rd_T33 l1 (ji13)).f1), .int .i64 ((rd_T33 l1 (ji13)).f2), .string ((rd_T33 l1 (ji13)).f3)] 33 (0, 0))) ∧ Aside0 (Below w.heap.size w wc))
                          case first =>
                            have H := HC43.out
                            clear HC43
                            by_cases c54 : ((rd_T30 l3 x20_1).f0) = 0
                            · rw [if_pos c54] at H
                              have c54b0 : (((rd_T30 l3 x20_1).f0) == 0) = true := beq_iff_eq.mpr c54
                              have c54b1 : (((rd_T30 l3 x20_1).f0) != 0) = false := bne_eq_false_iff_eq.mpr c54
                              clear c54
                              (first | rw [c54b0] | (simp only [i64_w, i32_w]; rw [c54b0]) | skip)
                              have H' := Aside0.mk H
                              clear H
                              have hnb55 := NB136_138.out
                              have hnc55 := NB138_136.out
                              have hnb56 := NB136_140.out
                              have hnc56 := NB140_136.out
                              have hcz57_0 : w49.cell? ⟨gb136, 0, none⟩ = some (.int .i64 ((rd_T30 l3 x20_1).f0)) := (blk_cell BK136.out 0).trans rfl
                              have hcz57_1 : w49.cell? ⟨gb136, 1, none⟩ = some (.int .i64 ((rd_T30 l3 x20_1).f1)) := (blk_cell BK136.out 1).trans rfl
                              have hfz57_0 := blk_frozen BK136.out 0
                              have hfz57_1 := blk_frozen BK136.out 1
                              go_wp2
                              go_meet
                              case rel => exact ⟨_, (true), (by first | rfl | (simp; done) | (simp [*]; done)), H', ⟨by have := HK1.out; first | omega | exact Nat.le_refl _⟩, ⟨by (with_reducible repeat (first | apply Kd.R_alloc | apply Kd.R_drewN | apply Kd.R_drew)); exact Kd.R_mono (Kd.R_far (p := ⟨gb140, 3, none⟩) (Kd.R_far (p := ⟨gb140, 2, none⟩) (Kd.R_far (p := ⟨gb140, 1, none⟩) (Kd.R_far (p := ⟨gb140, 0, none⟩) (Kd.R_mono HO_9.out (fun k_ hk => (⟨hk, hk.2⟩ : _ ∧ k_ ≠ gb140))) (fun _ hk => hk.2) (.int .i64 ((rd_T33 l1 (ji13)).f0))) (fun _ hk => hk.2) (.bool ((rd_T33 l1 (ji13)).f1))) (fun _ hk => hk.2) (.int .i64 ((rd_T33 l1 (ji13)).f2))) (fun _ hk => hk.2) (.string ((rd_T33 l1 (ji13)).f3))) (fun _ hk => ⟨hk.1.1.2, hk.1.2⟩)⟩, ⟨by (with_reducible repeat (first | refine blk_drewN ?_ _ | refine blk_drew ?_ | refine blk_alloc ?_ _)); refine blk_far ?_ NB136_140.out _; (with_reducible repeat (first | refine blk_drewN ?_ _ | refine blk_drew ?_ | refine blk_alloc ?_ _)); refine blk_far ?_ NB136_140.out _; (with_reducible repeat (first | refine blk_drewN ?_ _ | refine blk_drew ?_ | refine blk_alloc ?_ _)); refine blk_far ?_ NB136_140.out _; (with_reducible repeat (first | refine blk_drewN ?_ _ | refine blk_drew ?_ | refine blk_alloc ?_ _)); refine blk_far ?_ NB136_140.out _; (with_reducible repeat (first | refine blk_drewN ?_ _ | refine blk_drew ?_ | refine blk_alloc ?_ _)); exact BK136.out⟩, ⟨by (with_reducible repeat (first | refine blk_drewN ?_ _ | refine blk_drew ?_ | refine blk_alloc ?_ _)); refine blk_far ?_ NB138_140.out _; (with_reducible repeat (first | refine blk_drewN ?_ _ | refine blk_drew ?_ | refine blk_alloc ?_ _)); refine blk_far ?_ NB138_140.out _; (with_reducible repeat (first | refine blk_drewN ?_ _ | refine blk_drew ?_ | refine blk_alloc ?_ _)); refine blk_far ?_ NB138_140.out _; (with_reducible repeat (first | refine blk_drewN ?_ _ | refine blk_drew ?_ | refine blk_alloc ?_ _)); refine blk_far ?_ NB138_140.out _; (with_reducible repeat (first | refine blk_drewN ?_ _ | refine blk_drew ?_ | refine blk_alloc ?_ _)); exact BK138.out⟩, ⟨by (with_reducible repeat (first | refine blk_drewN ?_ _ | refine blk_drew ?_ | refine blk_alloc ?_ _)); refine blk_put (cs := #[.int .i64 ((rd_T33 l1 (ji13)).f0), .bool ((rd_T33 l1 (ji13)).f1), .int .i64 ((rd_T33 l1 (ji13)).f2), .string (⟨#[]⟩ : ByteArray)]) ?_ 3 _ rfl; (with_reducible repeat (first | refine blk_drewN ?_ _ | refine blk_drew ?_ | refine blk_alloc ?_ _)); refine blk_put (cs := #[.int .i64 ((rd_T33 l1 (ji13)).f0), .bool ((rd_T33 l1 (ji13)).f1), .int .i64 0, .string (⟨#[]⟩ : ByteArray)]) ?_ 2 _ rfl; (with_reducible repeat (first | refine blk_drewN ?_ _ | refine blk_drew ?_ | refine blk_alloc ?_ _)); refine blk_put (cs := #[.int .i64 ((rd_T33 l1 (ji13)).f0), .bool false, .int .i64 0, .string (⟨#[]⟩ : ByteArray)]) ?_ 1 _ rfl; (with_reducible repeat (first | refine blk_drewN ?_ _ | refine blk_drew ?_ | refine blk_alloc ?_ _)); refine blk_put (cs := #[.int .i64 0, .bool false, .int .i64 0, .string (⟨#[]⟩ : ByteArray)]) ?_ 0 _ rfl; (with_reducible repeat (first | refine blk_drewN ?_ _ | refine blk_drew ?_ | refine blk_alloc ?_ _)); exact BK140.out⟩, ⟨by repeat (first | (with_reducible first | exact HB.out | apply below_alloc | apply pw_below_drewN | apply below_drew1 | refine below_set ?_ GE136.out | refine below_set ?_ GE138.out | refine below_set ?_ GE140.out) | exact HB.out)⟩⟩
                            · rw [if_neg c54] at H
                              have c54b0 : (((rd_T30 l3 x20_1).f0) == 0) = false := beq_eq_false_iff_ne.mpr c54
                              have c54b1 : (((rd_T30 l3 x20_1).f0) != 0) = true := bne_iff_ne.mpr c54
                              (first | rw [c54b0] | (simp only [i64_w, i32_w]; rw [c54b0]) | skip)
                              have H' := Aside0.mk H
                              clear H
                              have hnb58 := NB136_138.out
                              have hnc58 := NB138_136.out
                              have hnb59 := NB136_140.out
                              have hnc59 := NB140_136.out
                              have hcz60_0 : w49.cell? ⟨gb136, 0, none⟩ = some (.int .i64 ((rd_T30 l3 x20_1).f0)) := (blk_cell BK136.out 0).trans rfl
                              have hcz60_1 : w49.cell? ⟨gb136, 1, none⟩ = some (.int .i64 ((rd_T30 l3 x20_1).f1)) := (blk_cell BK136.out 1).trans rfl
                              have hfz60_0 := blk_frozen BK136.out 0
                              have hfz60_1 := blk_frozen BK136.out 1
                              go_wp2
                              go_meet
                              case rel => exact ⟨_, ((((rd_T30 l3 x20_1).f0) == 1)), (by first | rfl | (simp; done) | (simp [*]; done)), H', ⟨by have := HK1.out; first | omega | exact Nat.le_refl _⟩, ⟨by (with_reducible repeat (first | apply Kd.R_alloc | apply Kd.R_drewN | apply Kd.R_drew)); exact Kd.R_mono (Kd.R_far (p := ⟨gb140, 3, none⟩) (Kd.R_far (p := ⟨gb140, 2, none⟩) (Kd.R_far (p := ⟨gb140, 1, none⟩) (Kd.R_far (p := ⟨gb140, 0, none⟩) (Kd.R_mono HO_9.out (fun k_ hk => (⟨hk, hk.2⟩ : _ ∧ k_ ≠ gb140))) (fun _ hk => hk.2) (.int .i64 ((rd_T33 l1 (ji13)).f0))) (fun _ hk => hk.2) (.bool ((rd_T33 l1 (ji13)).f1))) (fun _ hk => hk.2) (.int .i64 ((rd_T33 l1 (ji13)).f2))) (fun _ hk => hk.2) (.string ((rd_T33 l1 (ji13)).f3))) (fun _ hk => ⟨hk.1.1.2, hk.1.2⟩)⟩, ⟨by (with_reducible repeat (first | refine blk_drewN ?_ _ | refine blk_drew ?_ | refine blk_alloc ?_ _)); refine blk_far ?_ NB136_140.out _; (with_reducible repeat (first | refine blk_drewN ?_ _ | refine blk_drew ?_ | refine blk_alloc ?_ _)); refine blk_far ?_ NB136_140.out _; (with_reducible repeat (first | refine blk_drewN ?_ _ | refine blk_drew ?_ | refine blk_alloc ?_ _)); refine blk_far ?_ NB136_140.out _; (with_reducible repeat (first | refine blk_drewN ?_ _ | refine blk_drew ?_ | refine blk_alloc ?_ _)); refine blk_far ?_ NB136_140.out _; (with_reducible repeat (first | refine blk_drewN ?_ _ | refine blk_drew ?_ | refine blk_alloc ?_ _)); exact BK136.out⟩, ⟨by (with_reducible repeat (first | refine blk_drewN ?_ _ | refine blk_drew ?_ | refine blk_alloc ?_ _)); refine blk_far ?_ NB138_140.out _; (with_reducible repeat (first | refine blk_drewN ?_ _ | refine blk_drew ?_ | refine blk_alloc ?_ _)); refine blk_far ?_ NB138_140.out _; (with_reducible repeat (first | refine blk_drewN ?_ _ | refine blk_drew ?_ | refine blk_alloc ?_ _)); refine blk_far ?_ NB138_140.out _; (with_reducible repeat (first | refine blk_drewN ?_ _ | refine blk_drew ?_ | refine blk_alloc ?_ _)); refine blk_far ?_ NB138_140.out _; (with_reducible repeat (first | refine blk_drewN ?_ _ | refine blk_drew ?_ | refine blk_alloc ?_ _)); exact BK138.out⟩, ⟨by (with_reducible repeat (first | refine blk_drewN ?_ _ | refine blk_drew ?_ | refine blk_alloc ?_ _)); refine blk_put (cs := #[.int .i64 ((rd_T33 l1 (ji13)).f0), .bool ((rd_T33 l1 (ji13)).f1), .int .i64 ((rd_T33 l1 (ji13)).f2), .string (⟨#[]⟩ : ByteArray)]) ?_ 3 _ rfl; (with_reducible repeat (first | refine blk_drewN ?_ _ | refine blk_drew ?_ | refine blk_alloc ?_ _)); refine blk_put (cs := #[.int .i64 ((rd_T33 l1 (ji13)).f0), .bool ((rd_T33 l1 (ji13)).f1), .int .i64 0, .string (⟨#[]⟩ : ByteArray)]) ?_ 2 _ rfl; (with_reducible repeat (first | refine blk_drewN ?_ _ | refine blk_drew ?_ | refine blk_alloc ?_ _)); refine blk_put (cs := #[.int .i64 ((rd_T33 l1 (ji13)).f0), .bool false, .int .i64 0, .string (⟨#[]⟩ : ByteArray)]) ?_ 1 _ rfl; (with_reducible repeat (first | refine blk_drewN ?_ _ | refine blk_drew ?_ | refine blk_alloc ?_ _)); refine blk_put (cs := #[.int .i64 0, .bool false, .int .i64 0, .string (⟨#[]⟩ : ByteArray)]) ?_ 0 _ rfl; (with_reducible repeat (first | refine blk_drewN ?_ _ | refine blk_drew ?_ | refine blk_alloc ?_ _)); exact BK140.out⟩, ⟨by repeat (first | (with_reducible first | exact HB.out | apply below_alloc | apply pw_below_drewN | apply below_drew1 | refine below_set ?_ GE136.out | refine below_set ?_ GE138.out | refine below_set ?_ GE140.out) | exact HB.out)⟩⟩
                          case rest =>
                            clear HC43
                            try clear c1
                            try clear p1
                            try clear q1
                            try clear hx1
                            try clear c2
                            try clear p2
                            try clear c3
                            try clear c4
                            try clear c5
                            try clear c5b0
                            try clear c5b1
                            try clear c6
                            try clear c6b0
                            try clear c6b1
                            try clear p6
                            try clear q8
                            try clear c10
                            try clear c10b0
                            try clear c11
                            try clear c11b0
                            try clear c12
                            try clear c12b0
                            try clear p13
                            try clear q13
                            try clear hx13
                            try clear c14
                            try clear c14b0
                            try clear c15
                            try clear c15b0
                            try clear c16
                            try clear c16b0
                            try clear c17
                            try clear c17b0
                            try clear c17b1
                            try clear c18
                            try clear c21
                            try clear c22
                            try clear c25
                            try clear c26
                            try clear c30
                            try clear c30b0
                            try clear c30b1
                            try clear c31
                            try clear c35
                            try clear c38
                            try clear c39
                            try clear c47
                            try clear c50
                            try clear c51
                            try clear c53
                            try clear c54
                            try clear c54b0
                            try clear c54b1
                            try clear c55
                            try clear c56
                            try clear c58
                            try clear c59
                            try clear hcz20_0
                            try clear hcz20_1
                            try clear hcz23_0
                            try clear hcz23_1
                            try clear hcz23_2
                            try clear hcz23_3
                            try clear hcz27_0
                            try clear hcz27_1
                            try clear hcz27_2
                            try clear hcz27_3
                            try clear hcz28_0
                            try clear hcz28_1
                            try clear hcz28_2
                            try clear hcz28_3
                            try clear hcz33_0
                            try clear hcz33_1
                            try clear hcz36_0
                            try clear hcz36_1
                            try clear hcz36_2
                            try clear hcz36_3
                            try clear hcz40_0
                            try clear hcz40_1
                            try clear hcz40_2
                            try clear hcz40_3
                            try clear hcz41_0
                            try clear hcz41_1
                            try clear hcz41_2
                            try clear hcz41_3
                            try clear hcz45_0
                            try clear hcz45_1
                            try clear hcz48_0
                            try clear hcz48_1
                            try clear hcz48_2
                            try clear hcz48_3
                            try clear hcz52_0
                            try clear hcz52_1
                            try clear hcz52_2
                            try clear hcz52_3
                            try clear hcz53_0
                            try clear hcz53_1
                            try clear hcz53_2
                            try clear hcz53_3
                            try clear hcz57_0
                            try clear hcz57_1
                            try clear hcz60_0
                            try clear hcz60_1
                            try clear hfz20_0
                            try clear hfz20_1
                            try clear hfz23_0
                            try clear hfz23_1
                            try clear hfz23_2
                            try clear hfz23_3
                            try clear hfz27_0
                            try clear hfz27_1
                            try clear hfz27_2
                            try clear hfz27_3
                            try clear hfz28_0
                            try clear hfz28_1
                            try clear hfz28_2
                            try clear hfz28_3
                            try clear hfz33_0
                            try clear hfz33_1
                            try clear hfz36_0
                            try clear hfz36_1
                            try clear hfz36_2
                            try clear hfz36_3
                            try clear hfz40_0
                            try clear hfz40_1
                            try clear hfz40_2
                            try clear hfz40_3
                            try clear hfz41_0
                            try clear hfz41_1
                            try clear hfz41_2
                            try clear hfz41_3
                            try clear hfz45_0
                            try clear hfz45_1
                            try clear hfz48_0
                            try clear hfz48_1
                            try clear hfz48_2
                            try clear hfz48_3
                            try clear hfz52_0
                            try clear hfz52_1
                            try clear hfz52_2
                            try clear hfz52_3
                            try clear hfz53_0
                            try clear hfz53_1
                            try clear hfz53_2
                            try clear hfz53_3
                            try clear hfz57_0
                            try clear hfz57_1
                            try clear hfz60_0
                            try clear hfz60_1
                            try clear hx135_0
                            try clear hx135_1
                            try clear hx137_0
                            try clear hx137_1
                            try clear hx137_2
                            try clear hx137_3
                            try clear hx139_0
                            try clear hx139_1
                            try clear hx139_2
                            try clear hx139_3
                            try clear p135
                            try clear p137
                            try clear p139
                            try clear p2
                            try clear q135
                            try clear q137
                            try clear q139
                            try clear q8
                            obtain ⟨kq, x46_42, rfl, HA, HJ42, HO_9, BK136, BK138, BK140, HB⟩ := hcut
                            cases kq with
                            | zero => exact absurd HA.out (by simp [haylofttop_summed.j1])
                            | succ kj42 =>
                              have H := HA.out
                              clear HA
                              simp only [haylofttop_summed.j1] at H
                              by_cases c61 : x46_42 = true
                              · subst c61
                                have H1 : (if x9_1.length < 3518437208883 then (haylofttop_summed.l0 kj42 l0 l1 a2 (x9_1 ++ [(⟨((rd_T33 l0 (ji13)).f0), ((rd_T33 l0 (ji13)).f1), wrap64 (((rd_T33 l0 (ji13)).f2) + ((rd_T33 l1 (ji13)).f2)), ((rd_T33 l0 (ji13)).f3)⟩ : S33)]) l3 (l3.length : Int) (wrap64 (x20_1 + 1))) else (none)) = some r := by rw [if_pos rfl] at H; exact H
                                clear H
                                have H := H1
                                clear H1
                                by_cases c62 : x9_1.length < 3518437208883
                                · rw [if_pos c62] at H
                                  have LMc62 := Aside0.mk c62
                                  clear c62
                                  obtain ⟨y147, hy147⟩ : ∃ y_ : List (S33), y_ = (x9_1 ++ [(⟨((rd_T33 l0 (ji13)).f0), ((rd_T33 l0 (ji13)).f1), wrap64 (((rd_T33 l0 (ji13)).f2) + ((rd_T33 l1 (ji13)).f2)), ((rd_T33 l0 (ji13)).f3)⟩ : S33)]) := ⟨_, rfl⟩
                                  replace H : (haylofttop_summed.l0 kj42 l0 l1 a2 y147 l3 (l3.length : Int) (wrap64 (x20_1 + 1))) = some r := by first | (rw [hy147]; with_reducible exact H) | (have H2_ := (Option.bind_some _ _).symm.trans H; rw [hy147]; with_reducible exact H2_) | (have H2_ := (Option.bind_some _ _).symm.trans H; with_reducible exact H2_) | with_reducible exact H | (rw [hy147]; exact H) | exact H
                                  have Ny147 := Aside0.mk hy147
                                  clear hy147
                                  have H' := Aside0.mk H
                                  clear H
                                  have hnb63 := NB138_136.out
                                  have hnc63 := NB136_138.out
                                  have hnb64 := NB138_140.out
                                  have hnc64 := NB140_138.out
                                  have hcz65_0 : wc.cell? ⟨gb138, 0, none⟩ = some (.int .i64 ((rd_T33 l0 (ji13)).f0)) := (blk_cell BK138.out 0).trans rfl
                                  have hcz65_1 : wc.cell? ⟨gb138, 1, none⟩ = some (.bool ((rd_T33 l0 (ji13)).f1)) := (blk_cell BK138.out 1).trans rfl
                                  have hcz65_2 : wc.cell? ⟨gb138, 2, none⟩ = some (.int .i64 ((rd_T33 l0 (ji13)).f2)) := (blk_cell BK138.out 2).trans rfl
                                  have hcz65_3 : wc.cell? ⟨gb138, 3, none⟩ = some (.string ((rd_T33 l0 (ji13)).f3)) := (blk_cell BK138.out 3).trans rfl
                                  have hfz65_0 := blk_frozen BK138.out 0
                                  have hfz65_1 := blk_frozen BK138.out 1
                                  have hfz65_2 := blk_frozen BK138.out 2
                                  have hfz65_3 := blk_frozen BK138.out 3
                                  have hnb66 := NB140_136.out
                                  have hnc66 := NB136_140.out
                                  have hcz67_0 : wc.cell? ⟨gb140, 0, none⟩ = some (.int .i64 ((rd_T33 l1 (ji13)).f0)) := (blk_cell BK140.out 0).trans rfl
                                  have hcz67_1 : wc.cell? ⟨gb140, 1, none⟩ = some (.bool ((rd_T33 l1 (ji13)).f1)) := (blk_cell BK140.out 1).trans rfl
                                  have hcz67_2 : wc.cell? ⟨gb140, 2, none⟩ = some (.int .i64 ((rd_T33 l1 (ji13)).f2)) := (blk_cell BK140.out 2).trans rfl
                                  have hcz67_3 : wc.cell? ⟨gb140, 3, none⟩ = some (.string ((rd_T33 l1 (ji13)).f3)) := (blk_cell BK140.out 3).trans rfl
                                  have hfz67_0 := blk_frozen BK140.out 0
                                  have hfz67_1 := blk_frozen BK140.out 1
                                  have hfz67_2 := blk_frozen BK140.out 2
                                  have hfz67_3 := blk_frozen BK140.out 3
                                  go_wp2_with (first | ((with_reducible refine gate_builtin (b := .append) (xs := #[.tmp 83, .tmp 85]) rfl ?_); at_builtin; refine Kd.R_append k33 (w0 := w) w.heap.size rfl (.tmp 83) (.tmp 85) 31 33 (.agg #[(.int .i64 0), (.bool false), (.int .i64 0), (.string ⟨#[]⟩)]) 40 rfl Tryd.underlying31 info33 rfl (by decide) (by omega) u9 x9_1 (⟨((rd_T33 l0 (ji13)).f0), ((rd_T33 l0 (ji13)).f1), wrap64 (((rd_T33 l0 (ji13)).f2) + ((rd_T33 l1 (ji13)).f2)), ((rd_T33 l0 (ji13)).f3)⟩ : S33) [.int .i64 ((rd_T33 l0 (ji13)).f0), .bool ((rd_T33 l0 (ji13)).f1), .int .i64 (wrap64 (((rd_T33 l0 (ji13)).f2) + ((rd_T33 l1 (ji13)).f2))), .string ((rd_T33 l0 (ji13)).f3)] (fun k_ => k_ ≠ gb138 ∧ k_ ≠ gb140) (fun _ => False) rfl (by first | (go_simp; done) | (go_simp; rfl)) ?aP (fun _ hk => hk.elim) ?aF ?aO ?aB ?aS ?aL ?_; (case aP => exact k33_mkM _ _ _ (⟨((rd_T33 l0 (ji13)).f0), ((rd_T33 l0 (ji13)).f1), wrap64 (((rd_T33 l0 (ji13)).f2) + ((rd_T33 l1 (ji13)).f2)), ((rd_T33 l0 (ji13)).f3)⟩ : S33)); (case aB => exact (by repeat (first | (with_reducible first | exact HB.out | apply below_alloc | apply pw_below_drewN | apply below_drew1 | refine below_set ?_ GE136.out | refine below_set ?_ GE138.out | refine below_set ?_ GE140.out) | exact HB.out))); (case aF => exact (fun k_ hk => ⟨Kd.freshB (g := gb138) (o := .cells #[.int .i64 ((rd_T33 l0 (ji13)).f0), .bool ((rd_T33 l0 (ji13)).f1), .int .i64 (wrap64 (((rd_T33 l0 (ji13)).f2) + ((rd_T33 l1 (ji13)).f2))), .string ((rd_T33 l0 (ji13)).f3)] 33 (0, 0)) (by (with_reducible repeat (first | refine blk_drewN ?_ _ | refine blk_drew ?_ | refine blk_alloc ?_ _)); refine blk_put (cs := #[.int .i64 ((rd_T33 l0 (ji13)).f0), .bool ((rd_T33 l0 (ji13)).f1), .int .i64 ((rd_T33 l0 (ji13)).f2), .string ((rd_T33 l0 (ji13)).f3)]) ?_ 2 _ rfl; (with_reducible repeat (first | refine blk_drewN ?_ _ | refine blk_drew ?_ | refine blk_alloc ?_ _)); exact BK138.out) k_ hk, Kd.freshB (g := gb140) (o := .cells #[.int .i64 ((rd_T33 l1 (ji13)).f0), .bool ((rd_T33 l1 (ji13)).f1), .int .i64 ((rd_T33 l1 (ji13)).f2), .string ((rd_T33 l1 (ji13)).f3)] 33 (0, 0)) (by (with_reducible repeat (first | refine blk_drewN ?_ _ | refine blk_drew ?_ | refine blk_alloc ?_ _)); refine blk_far ?_ NB140_138.out _; (with_reducible repeat (first | refine blk_drewN ?_ _ | refine blk_drew ?_ | refine blk_alloc ?_ _)); exact BK140.out) k_ hk⟩)); (case aO => exact (by (with_reducible repeat (first | apply Kd.R_alloc | apply Kd.R_drewN | apply Kd.R_drew)); exact Kd.R_mono (Kd.R_far (p := ⟨gb138, 2, none⟩) (Kd.R_mono HO_9.out (fun k_ hk => (⟨hk, hk.1⟩ : _ ∧ k_ ≠ gb138))) (fun _ hk => hk.2) (.int .i64 (wrap64 (((rd_T33 l0 (ji13)).f2) + ((rd_T33 l1 (ji13)).f2))))) (fun _ hk => ⟨hk.1.1, hk.1.2⟩))); (case aS => exact (below_size (by repeat (first | (with_reducible first | exact HB.out | apply below_alloc | apply pw_below_drewN | apply below_drew1 | refine below_set ?_ GE136.out | refine below_set ?_ GE138.out | refine below_set ?_ GE140.out) | exact HB.out)))); (case aL => have := LMc62.out; omega); intro v148 w68 ho hb hg hat; rw [← Ny147.out] at ho; have n0_ := Aside0.mk (blk_grown (g := gb136) (o := .cells #[.int .i64 ((rd_T30 l3 x20_1).f0), .int .i64 ((rd_T30 l3 x20_1).f1)] 30 (0, 0)) (by (with_reducible repeat (first | refine blk_drewN ?_ _ | refine blk_drew ?_ | refine blk_alloc ?_ _)); refine blk_far ?_ NB136_138.out _; (with_reducible repeat (first | refine blk_drewN ?_ _ | refine blk_drew ?_ | refine blk_alloc ?_ _)); exact BK136.out) hg (Kd.R_ne HO_9.out BK136.out (by decide))); have n1_ := Aside0.mk (blk_grown (g := gb138) (o := .cells #[.int .i64 ((rd_T33 l0 (ji13)).f0), .bool ((rd_T33 l0 (ji13)).f1), .int .i64 (wrap64 (((rd_T33 l0 (ji13)).f2) + ((rd_T33 l1 (ji13)).f2))), .string ((rd_T33 l0 (ji13)).f3)] 33 (0, 0)) (by (with_reducible repeat (first | refine blk_drewN ?_ _ | refine blk_drew ?_ | refine blk_alloc ?_ _)); refine blk_put (cs := #[.int .i64 ((rd_T33 l0 (ji13)).f0), .bool ((rd_T33 l0 (ji13)).f1), .int .i64 ((rd_T33 l0 (ji13)).f2), .string ((rd_T33 l0 (ji13)).f3)]) ?_ 2 _ rfl; (with_reducible repeat (first | refine blk_drewN ?_ _ | refine blk_drew ?_ | refine blk_alloc ?_ _)); exact BK138.out) hg (Kd.R_away HO_9.out (fun _ hk => hk.1))); have n2_ := Aside0.mk (blk_grown (g := gb140) (o := .cells #[.int .i64 ((rd_T33 l1 (ji13)).f0), .bool ((rd_T33 l1 (ji13)).f1), .int .i64 ((rd_T33 l1 (ji13)).f2), .string ((rd_T33 l1 (ji13)).f3)] 33 (0, 0)) (by (with_reducible repeat (first | refine blk_drewN ?_ _ | refine blk_drew ?_ | refine blk_alloc ?_ _)); refine blk_far ?_ NB140_138.out _; (with_reducible repeat (first | refine blk_drewN ?_ _ | refine blk_drew ?_ | refine blk_alloc ?_ _)); exact BK140.out) hg (Kd.R_away HO_9.out (fun _ hk => hk.2))); have n3_ := Aside0.mk (hb); have n4_ := Aside0.mk (ho); clear BK136; clear BK138; clear BK140; clear HB; clear HO_9; have BK136 := n0_; have BK138 := n1_; have BK140 := n2_; have HB := n3_; have HO149 := n4_; clear n0_ n1_ n2_ n3_ n4_; clear ho hb hg hat))
                                  go_roundg kj42
                                  case measure => have := HK1.out; have := HJ42.out; omega
                                  case rel => exact ⟨(y147), (wrap64 (x20_1 + 1)), (by first | rfl | (simp; done) | (simp [*]; done)), H', ⟨by have := HK1.out; have := HJ42.out; omega⟩, ⟨by (with_reducible repeat (first | apply Kd.R_alloc | apply Kd.R_drewN | apply Kd.R_drew)); exact Kd.R_mono HO149.out (fun _ hk => trivial)⟩, ⟨by repeat (first | (with_reducible first | exact HB.out | apply below_alloc | apply pw_below_drewN | apply below_drew1 | refine below_set ?_ GE136.out | refine below_set ?_ GE138.out | refine below_set ?_ GE140.out) | exact HB.out)⟩⟩
                                · rw [if_neg c62] at H
                                  exact absurd H (by simp)
                              · replace c61 := Bool.eq_false_iff.mpr c61
                                subst c61
                                have H1 : (if ((rd_T30 l3 x20_1).f0) = 2 then ((hayloftref02_Compare.f ((rd_T33 l1 (ji13)).f0) ((rd_T33 l1 (ji13)).f1) ((rd_T33 l1 (ji13)).f2) ((rd_T33 l1 (ji13)).f3) ((rd_T33 l0 (ji13)).f0) ((rd_T33 l0 (ji13)).f1) ((rd_T33 l0 (ji13)).f2) ((rd_T33 l0 (ji13)).f3)).bind fun t150 => (haylofttop_summed.j2 kj42 l0 l1 a2 x9_1 l3 (l3.length : Int) x20_1 (decide (t150 < 0)) ((rd_T30 l3 x20_1).f0) ((rd_T30 l3 x20_1).f1) ((rd_T33 l0 (ji13)).f0) ((rd_T33 l0 (ji13)).f1) ((rd_T33 l0 (ji13)).f2) ((rd_T33 l0 (ji13)).f3) ((rd_T33 l1 (ji13)).f0) ((rd_T33 l1 (ji13)).f1) ((rd_T33 l1 (ji13)).f2) ((rd_T33 l1 (ji13)).f3))) else (haylofttop_summed.j2 kj42 l0 l1 a2 x9_1 l3 (l3.length : Int) x20_1 false ((rd_T30 l3 x20_1).f0) ((rd_T30 l3 x20_1).f1) ((rd_T33 l0 (ji13)).f0) ((rd_T33 l0 (ji13)).f1) ((rd_T33 l0 (ji13)).f2) ((rd_T33 l0 (ji13)).f3) ((rd_T33 l1 (ji13)).f0) ((rd_T33 l1 (ji13)).f1) ((rd_T33 l1 (ji13)).f2) ((rd_T33 l1 (ji13)).f3))) = some r := by rw [if_neg (show ¬ (false = true) by decide)] at H; exact H
                                clear H
                                have H := H1
                                clear H1
                                have HC69 := Aside0.mk H
                                clear H
                                go_upto_region 12 with (fail)
                                go_cut [61] (fun v61 wc => ∃ (kq : Nat) (x61_68 : Bool), v61 = .bool x61_68 ∧ Aside0 (haylofttop_summed.j2 kq l0 l1 a2 x9_1 l3 (l3.length : Int) x20_1 x61_68 ((rd_T30 l3 x20_1).f0) ((rd_T30 l3 x20_1).f1) ((rd_T33 l0 (ji13)).f0) ((rd_T33 l0 (ji13)).f1) ((rd_T33 l0 (ji13)).f2) ((rd_T33 l0 (ji13)).f3) ((rd_T33 l1 (ji13)).f0) ((rd_T33 l1 (ji13)).f1) ((rd_T33 l1 (ji13)).f2) ((rd_T33 l1 (ji13)).f3) = some r) ∧ Aside0 (kq ≤ kj42) ∧ Aside0 (Kd.R k33 33 wc w.heap.size (fun k_ => k_ ≠ gb138 ∧ k_ ≠ gb140) u9 x9_1) ∧ Aside0 (wc.heap[gb136]? = some (.cells #[.int .i64 ((rd_T30 l3 x20_1).f0), .int .i64 ((rd_T30 l3 x20_1).f1)] 30 (0, 0))) ∧ Aside0 (wc.heap[gb138]? = some (.cells #[.int .i64 ((rd_T33 l0 (ji13)).f0), .bool ((rd_T33 l0 (ji13)).f1), .int .i64 ((rd_T33 l0 (ji13)).f2), .string ((rd_T33 l0 (ji13)).f3)] 33 (0, 0))) ∧ Aside0 (wc.heap[gb140]? = some (.cells #[.int .i64 ((rd_T33 l1 (ji13)).f0), .bool ((rd_T33 l1 (ji13)).f1), .int .i64 ((rd_T33 l1 (ji13)).f2), .string ((rd_T33 l1 (ji13)).f3)] 33 (0, 0))) ∧ Aside0 (Below w.heap.size w wc))
                                case first =>
                                  have H := HC69.out
                                  clear HC69
                                  by_cases c70 : ((rd_T30 l3 x20_1).f0) = 2
                                  · rw [if_pos c70] at H
                                    have c70b0 : (((rd_T30 l3 x20_1).f0) == 2) = true := beq_iff_eq.mpr c70
                                    have c70b1 : (((rd_T30 l3 x20_1).f0) != 2) = false := bne_eq_false_iff_eq.mpr c70
                                    clear c70
                                    (first | rw [c70b0] | (simp only [i64_w, i32_w]; rw [c70b0]) | skip)
                                    replace H := Option.bind_eq_some_iff.mp H
                                    obtain ⟨t150, A710, H⟩ := H
                                    replace H : (haylofttop_summed.j2 kj42 l0 l1 a2 x9_1 l3 (l3.length : Int) x20_1 (decide (t150 < 0)) ((rd_T30 l3 x20_1).f0) ((rd_T30 l3 x20_1).f1) ((rd_T33 l0 (ji13)).f0) ((rd_T33 l0 (ji13)).f1) ((rd_T33 l0 (ji13)).f2) ((rd_T33 l0 (ji13)).f3) ((rd_T33 l1 (ji13)).f0) ((rd_T33 l1 (ji13)).f1) ((rd_T33 l1 (ji13)).f2) ((rd_T33 l1 (ji13)).f3)) = some r := H
                                    have A71 := Aside0.mk A710
                                    clear A710
                                    have H' := Aside0.mk H
                                    clear H
                                    have hnb72 := NB136_138.out
                                    have hnc72 := NB138_136.out
                                    have hnb73 := NB136_140.out
                                    have hnc73 := NB140_136.out
                                    have hcz74_0 : wc.cell? ⟨gb136, 0, none⟩ = some (.int .i64 ((rd_T30 l3 x20_1).f0)) := (blk_cell BK136.out 0).trans rfl
                                    have hcz74_1 : wc.cell? ⟨gb136, 1, none⟩ = some (.int .i64 ((rd_T30 l3 x20_1).f1)) := (blk_cell BK136.out 1).trans rfl
                                    have hfz74_0 := blk_frozen BK136.out 0
                                    have hfz74_1 := blk_frozen BK136.out 1
                                    have hnb75 := NB140_138.out
                                    have hnc75 := NB138_140.out
                                    have hcz76_0 : wc.cell? ⟨gb140, 0, none⟩ = some (.int .i64 ((rd_T33 l1 (ji13)).f0)) := (blk_cell BK140.out 0).trans rfl
                                    have hcz76_1 : wc.cell? ⟨gb140, 1, none⟩ = some (.bool ((rd_T33 l1 (ji13)).f1)) := (blk_cell BK140.out 1).trans rfl
                                    have hcz76_2 : wc.cell? ⟨gb140, 2, none⟩ = some (.int .i64 ((rd_T33 l1 (ji13)).f2)) := (blk_cell BK140.out 2).trans rfl
                                    have hcz76_3 : wc.cell? ⟨gb140, 3, none⟩ = some (.string ((rd_T33 l1 (ji13)).f3)) := (blk_cell BK140.out 3).trans rfl
                                    have hfz76_0 := blk_frozen BK140.out 0
                                    have hfz76_1 := blk_frozen BK140.out 1
                                    have hfz76_2 := blk_frozen BK140.out 2
                                    have hfz76_3 := blk_frozen BK140.out 3
                                    have hcz77_0 : wc.cell? ⟨gb138, 0, none⟩ = some (.int .i64 ((rd_T33 l0 (ji13)).f0)) := (blk_cell BK138.out 0).trans rfl
                                    have hcz77_1 : wc.cell? ⟨gb138, 1, none⟩ = some (.bool ((rd_T33 l0 (ji13)).f1)) := (blk_cell BK138.out 1).trans rfl
                                    have hcz77_2 : wc.cell? ⟨gb138, 2, none⟩ = some (.int .i64 ((rd_T33 l0 (ji13)).f2)) := (blk_cell BK138.out 2).trans rfl
                                    have hcz77_3 : wc.cell? ⟨gb138, 3, none⟩ = some (.string ((rd_T33 l0 (ji13)).f3)) := (blk_cell BK138.out 3).trans rfl
                                    have hfz77_0 := blk_frozen BK138.out 0
                                    have hfz77_1 := blk_frozen BK138.out 1
                                    have hfz77_2 := blk_frozen BK138.out 2
                                    have hfz77_3 := blk_frozen BK138.out 3
                                    go_wp2_with (first | (go_at_call 54; (with_reducible refine (hayloftref02_Compare.calls ((rd_T33 l1 (ji13)).f0) ((rd_T33 l1 (ji13)).f1) ((rd_T33 l1 (ji13)).f2) ((rd_T33 l1 (ji13)).f3) ((rd_T33 l0 (ji13)).f0) ((rd_T33 l0 (ji13)).f1) ((rd_T33 l0 (ji13)).f2) ((rd_T33 l0 (ji13)).f3) t150 _ A71.out).mono ?_); rintro e w78 ⟨rfl, hb⟩; have n0_ := Aside0.mk (Kd.R_below (by (with_reducible repeat (first | apply Kd.R_alloc | apply Kd.R_drewN | apply Kd.R_drew)); exact HO_9.out) hb); have n1_ := Aside0.mk (blk_below (g := gb136) (o := .cells #[.int .i64 ((rd_T30 l3 x20_1).f0), .int .i64 ((rd_T30 l3 x20_1).f1)] 30 (0, 0)) (by (with_reducible repeat (first | refine blk_drewN ?_ _ | refine blk_drew ?_ | refine blk_alloc ?_ _)); exact BK136.out) hb); have n2_ := Aside0.mk (blk_below (g := gb138) (o := .cells #[.int .i64 ((rd_T33 l0 (ji13)).f0), .bool ((rd_T33 l0 (ji13)).f1), .int .i64 ((rd_T33 l0 (ji13)).f2), .string ((rd_T33 l0 (ji13)).f3)] 33 (0, 0)) (by (with_reducible repeat (first | refine blk_drewN ?_ _ | refine blk_drew ?_ | refine blk_alloc ?_ _)); exact BK138.out) hb); have n3_ := Aside0.mk (blk_below (g := gb140) (o := .cells #[.int .i64 ((rd_T33 l1 (ji13)).f0), .bool ((rd_T33 l1 (ji13)).f1), .int .i64 ((rd_T33 l1 (ji13)).f2), .string ((rd_T33 l1 (ji13)).f3)] 33 (0, 0)) (by (with_reducible repeat (first | refine blk_drewN ?_ _ | refine blk_drew ?_ | refine blk_alloc ?_ _)); exact BK140.out) hb); have n4_ := Aside0.mk (below_step (by repeat (first | (with_reducible first | exact HB.out | apply below_alloc | apply pw_below_drewN | apply below_drew1 | refine below_set ?_ GE136.out | refine below_set ?_ GE138.out | refine below_set ?_ GE140.out) | exact HB.out)) hb); clear HO_9; clear BK136; clear BK138; clear BK140; clear HB; have HO_9 := n0_; have BK136 := n1_; have BK138 := n2_; have BK140 := n3_; have HB := n4_; clear n0_ n1_ n2_ n3_ n4_; (try clear hb); (try clear hb2); (try clear hk); (try clear hi)))
                                    go_meet
                                    case rel => exact ⟨_, (decide (t150 < 0)), (by first | rfl | (simp; done) | (simp [*]; done)), H', ⟨by have := HK1.out; have := HJ42.out; first | omega | exact Nat.le_refl _⟩, ⟨by (with_reducible repeat (first | apply Kd.R_alloc | apply Kd.R_drewN | apply Kd.R_drew)); exact HO_9.out⟩, ⟨by (with_reducible repeat (first | refine blk_drewN ?_ _ | refine blk_drew ?_ | refine blk_alloc ?_ _)); exact BK136.out⟩, ⟨by (with_reducible repeat (first | refine blk_drewN ?_ _ | refine blk_drew ?_ | refine blk_alloc ?_ _)); exact BK138.out⟩, ⟨by (with_reducible repeat (first | refine blk_drewN ?_ _ | refine blk_drew ?_ | refine blk_alloc ?_ _)); exact BK140.out⟩, ⟨by repeat (first | (with_reducible first | exact HB.out | apply below_alloc | apply pw_below_drewN | apply below_drew1 | refine below_set ?_ GE136.out | refine below_set ?_ GE138.out | refine below_set ?_ GE140.out) | exact HB.out)⟩⟩
                                  · rw [if_neg c70] at H
                                    have c70b0 : (((rd_T30 l3 x20_1).f0) == 2) = false := beq_eq_false_iff_ne.mpr c70
                                    have c70b1 : (((rd_T30 l3 x20_1).f0) != 2) = true := bne_iff_ne.mpr c70
                                    (first | rw [c70b0] | (simp only [i64_w, i32_w]; rw [c70b0]) | skip)
                                    have H' := Aside0.mk H
                                    clear H
                                    have hnb79 := NB136_138.out
                                    have hnc79 := NB138_136.out
                                    have hnb80 := NB136_140.out
                                    have hnc80 := NB140_136.out
                                    have hcz81_0 : wc.cell? ⟨gb136, 0, none⟩ = some (.int .i64 ((rd_T30 l3 x20_1).f0)) := (blk_cell BK136.out 0).trans rfl
                                    have hcz81_1 : wc.cell? ⟨gb136, 1, none⟩ = some (.int .i64 ((rd_T30 l3 x20_1).f1)) := (blk_cell BK136.out 1).trans rfl
                                    have hfz81_0 := blk_frozen BK136.out 0
                                    have hfz81_1 := blk_frozen BK136.out 1
                                    go_wp2
                                    go_meet
                                    case rel => exact ⟨_, (false), (by first | rfl | (simp; done) | (simp [*]; done)), H', ⟨by have := HK1.out; have := HJ42.out; first | omega | exact Nat.le_refl _⟩, ⟨by (with_reducible repeat (first | apply Kd.R_alloc | apply Kd.R_drewN | apply Kd.R_drew)); exact HO_9.out⟩, ⟨by (with_reducible repeat (first | refine blk_drewN ?_ _ | refine blk_drew ?_ | refine blk_alloc ?_ _)); exact BK136.out⟩, ⟨by (with_reducible repeat (first | refine blk_drewN ?_ _ | refine blk_drew ?_ | refine blk_alloc ?_ _)); exact BK138.out⟩, ⟨by (with_reducible repeat (first | refine blk_drewN ?_ _ | refine blk_drew ?_ | refine blk_alloc ?_ _)); exact BK140.out⟩, ⟨by repeat (first | (with_reducible first | exact HB.out | apply below_alloc | apply pw_below_drewN | apply below_drew1 | refine below_set ?_ GE136.out | refine below_set ?_ GE138.out | refine below_set ?_ GE140.out) | exact HB.out)⟩⟩
                                case rest =>
                                  clear HC69
                                  try clear c1
                                  try clear p1
                                  try clear q1
                                  try clear hx1
                                  try clear c2
                                  try clear p2
                                  try clear c3
                                  try clear c4
                                  try clear c5
                                  try clear c5b0
                                  try clear c5b1
                                  try clear c6
                                  try clear c6b0
                                  try clear c6b1
                                  try clear p6
                                  try clear c7
                                  try clear c8
                                  try clear q8
                                  try clear c10
                                  try clear c10b0
                                  try clear c11
                                  try clear c11b0
                                  try clear c12
                                  try clear c12b0
                                  try clear p13
                                  try clear q13
                                  try clear hx13
                                  try clear c14
                                  try clear c14b0
                                  try clear c15
                                  try clear c15b0
                                  try clear c16
                                  try clear c16b0
                                  try clear c17
                                  try clear c17b0
                                  try clear c17b1
                                  try clear c18
                                  try clear c21
                                  try clear c22
                                  try clear c25
                                  try clear c26
                                  try clear c30
                                  try clear c30b0
                                  try clear c30b1
                                  try clear c31
                                  try clear c35
                                  try clear c38
                                  try clear c39
                                  try clear c47
                                  try clear c50
                                  try clear c51
                                  try clear c53
                                  try clear c54
                                  try clear c54b0
                                  try clear c54b1
                                  try clear c55
                                  try clear c56
                                  try clear c58
                                  try clear c59
                                  try clear c61
                                  try clear c62
                                  try clear c63
                                  try clear c64
                                  try clear p64
                                  try clear c66
                                  try clear c70
                                  try clear c70b0
                                  try clear c70b1
                                  try clear c72
                                  try clear c73
                                  try clear c75
                                  try clear c79
                                  try clear c80
                                  try clear hcz20_0
                                  try clear hcz20_1
                                  try clear hcz23_0
                                  try clear hcz23_1
                                  try clear hcz23_2
                                  try clear hcz23_3
                                  try clear hcz27_0
                                  try clear hcz27_1
                                  try clear hcz27_2
                                  try clear hcz27_3
                                  try clear hcz28_0
                                  try clear hcz28_1
                                  try clear hcz28_2
                                  try clear hcz28_3
                                  try clear hcz33_0
                                  try clear hcz33_1
                                  try clear hcz36_0
                                  try clear hcz36_1
                                  try clear hcz36_2
                                  try clear hcz36_3
                                  try clear hcz40_0
                                  try clear hcz40_1
                                  try clear hcz40_2
                                  try clear hcz40_3
                                  try clear hcz41_0
                                  try clear hcz41_1
                                  try clear hcz41_2
                                  try clear hcz41_3
                                  try clear hcz45_0
                                  try clear hcz45_1
                                  try clear hcz48_0
                                  try clear hcz48_1
                                  try clear hcz48_2
                                  try clear hcz48_3
                                  try clear hcz52_0
                                  try clear hcz52_1
                                  try clear hcz52_2
                                  try clear hcz52_3
                                  try clear hcz53_0
                                  try clear hcz53_1
                                  try clear hcz53_2
                                  try clear hcz53_3
                                  try clear hcz57_0
                                  try clear hcz57_1
                                  try clear hcz60_0
                                  try clear hcz60_1
                                  try clear hcz65_0
                                  try clear hcz65_1
                                  try clear hcz65_2
                                  try clear hcz65_3
                                  try clear hcz67_0
                                  try clear hcz67_1
                                  try clear hcz67_2
                                  try clear hcz67_3
                                  try clear hcz74_0
                                  try clear hcz74_1
                                  try clear hcz76_0
                                  try clear hcz76_1
                                  try clear hcz76_2
                                  try clear hcz76_3
                                  try clear hcz77_0
                                  try clear hcz77_1
                                  try clear hcz77_2
                                  try clear hcz77_3
                                  try clear hcz81_0
                                  try clear hcz81_1
                                  try clear hfz20_0
                                  try clear hfz20_1
                                  try clear hfz23_0
                                  try clear hfz23_1
                                  try clear hfz23_2
                                  try clear hfz23_3
                                  try clear hfz27_0
                                  try clear hfz27_1
                                  try clear hfz27_2
                                  try clear hfz27_3
                                  try clear hfz28_0
                                  try clear hfz28_1
                                  try clear hfz28_2
                                  try clear hfz28_3
                                  try clear hfz33_0
                                  try clear hfz33_1
                                  try clear hfz36_0
                                  try clear hfz36_1
                                  try clear hfz36_2
                                  try clear hfz36_3
                                  try clear hfz40_0
                                  try clear hfz40_1
                                  try clear hfz40_2
                                  try clear hfz40_3
                                  try clear hfz41_0
                                  try clear hfz41_1
                                  try clear hfz41_2
                                  try clear hfz41_3
                                  try clear hfz45_0
                                  try clear hfz45_1
                                  try clear hfz48_0
                                  try clear hfz48_1
                                  try clear hfz48_2
                                  try clear hfz48_3
                                  try clear hfz52_0
                                  try clear hfz52_1
                                  try clear hfz52_2
                                  try clear hfz52_3
                                  try clear hfz53_0
                                  try clear hfz53_1
                                  try clear hfz53_2
                                  try clear hfz53_3
                                  try clear hfz57_0
                                  try clear hfz57_1
                                  try clear hfz60_0
                                  try clear hfz60_1
                                  try clear hfz65_0
                                  try clear hfz65_1
                                  try clear hfz65_2
                                  try clear hfz65_3
                                  try clear hfz67_0
                                  try clear hfz67_1
                                  try clear hfz67_2
                                  try clear hfz67_3
                                  try clear hfz74_0
                                  try clear hfz74_1
                                  try clear hfz76_0
                                  try clear hfz76_1
                                  try clear hfz76_2
                                  try clear hfz76_3
                                  try clear hfz77_0
                                  try clear hfz77_1
                                  try clear hfz77_2
                                  try clear hfz77_3
                                  try clear hfz81_0
                                  try clear hfz81_1
                                  try clear hx135_0
                                  try clear hx135_1
                                  try clear hx137_0
                                  try clear hx137_1
                                  try clear hx137_2
                                  try clear hx137_3
                                  try clear hx139_0
                                  try clear hx139_1
                                  try clear hx139_2
                                  try clear hx139_3
                                  try clear p1
                                  try clear p13
                                  try clear p135
                                  try clear p137
                                  try clear p139
                                  try clear p2
                                  try clear p6
                                  try clear q1
                                  try clear q13
                                  try clear q135
                                  try clear q137
                                  try clear q139
                                  try clear q8
                                  obtain ⟨kq, x61_68, rfl, HA, HJ68, HO_9, BK136, BK138, BK140, HB⟩ := hcut
                                  cases kq with
                                  | zero => exact absurd HA.out (by simp [haylofttop_summed.j2])
                                  | succ kj68 =>
                                    have H := HA.out
                                    clear HA
                                    simp only [haylofttop_summed.j2] at H
                                    by_cases c82 : x61_68 = true
                                    · subst c82
                                      have H1 : (if x9_1.length < 3518437208883 then (haylofttop_summed.l0 kj68 l0 l1 a2 (x9_1 ++ [(⟨((rd_T33 l1 (ji13)).f0), ((rd_T33 l1 (ji13)).f1), ((rd_T33 l1 (ji13)).f2), ((rd_T33 l1 (ji13)).f3)⟩ : S33)]) l3 (l3.length : Int) (wrap64 (x20_1 + 1))) else (none)) = some r := by rw [if_pos rfl] at H; exact H
                                      clear H
                                      have H := H1
                                      clear H1
                                      by_cases c83 : x9_1.length < 3518437208883
                                      · rw [if_pos c83] at H
                                        have LMc83 := Aside0.mk c83
                                        clear c83
                                        obtain ⟨y151, hy151⟩ : ∃ y_ : List (S33), y_ = (x9_1 ++ [(⟨((rd_T33 l1 (ji13)).f0), ((rd_T33 l1 (ji13)).f1), ((rd_T33 l1 (ji13)).f2), ((rd_T33 l1 (ji13)).f3)⟩ : S33)]) := ⟨_, rfl⟩
                                        replace H : (haylofttop_summed.l0 kj68 l0 l1 a2 y151 l3 (l3.length : Int) (wrap64 (x20_1 + 1))) = some r := by first | (rw [hy151]; with_reducible exact H) | (have H2_ := (Option.bind_some _ _).symm.trans H; rw [hy151]; with_reducible exact H2_) | (have H2_ := (Option.bind_some _ _).symm.trans H; with_reducible exact H2_) | with_reducible exact H | (rw [hy151]; exact H) | exact H
                                        have Ny151 := Aside0.mk hy151
                                        clear hy151
                                        have H' := Aside0.mk H
                                        clear H
                                        have hnb84 := NB140_136.out
                                        have hnc84 := NB136_140.out
                                        have hnb85 := NB140_138.out
                                        have hnc85 := NB138_140.out
                                        have hcz86_0 : wc.cell? ⟨gb140, 0, none⟩ = some (.int .i64 ((rd_T33 l1 (ji13)).f0)) := (blk_cell BK140.out 0).trans rfl
                                        have hcz86_1 : wc.cell? ⟨gb140, 1, none⟩ = some (.bool ((rd_T33 l1 (ji13)).f1)) := (blk_cell BK140.out 1).trans rfl
                                        have hcz86_2 : wc.cell? ⟨gb140, 2, none⟩ = some (.int .i64 ((rd_T33 l1 (ji13)).f2)) := (blk_cell BK140.out 2).trans rfl
                                        have hcz86_3 : wc.cell? ⟨gb140, 3, none⟩ = some (.string ((rd_T33 l1 (ji13)).f3)) := (blk_cell BK140.out 3).trans rfl
                                        have hfz86_0 := blk_frozen BK140.out 0
                                        have hfz86_1 := blk_frozen BK140.out 1
                                        have hfz86_2 := blk_frozen BK140.out 2
                                        have hfz86_3 := blk_frozen BK140.out 3
                                        have hnb87 := NB138_136.out
                                        have hnc87 := NB136_138.out
                                        have hcz88_0 : wc.cell? ⟨gb138, 0, none⟩ = some (.int .i64 ((rd_T33 l0 (ji13)).f0)) := (blk_cell BK138.out 0).trans rfl
                                        have hcz88_1 : wc.cell? ⟨gb138, 1, none⟩ = some (.bool ((rd_T33 l0 (ji13)).f1)) := (blk_cell BK138.out 1).trans rfl
                                        have hcz88_2 : wc.cell? ⟨gb138, 2, none⟩ = some (.int .i64 ((rd_T33 l0 (ji13)).f2)) := (blk_cell BK138.out 2).trans rfl
                                        have hcz88_3 : wc.cell? ⟨gb138, 3, none⟩ = some (.string ((rd_T33 l0 (ji13)).f3)) := (blk_cell BK138.out 3).trans rfl
                                        have hfz88_0 := blk_frozen BK138.out 0
                                        have hfz88_1 := blk_frozen BK138.out 1
                                        have hfz88_2 := blk_frozen BK138.out 2
                                        have hfz88_3 := blk_frozen BK138.out 3
                                        go_wp2_with (first | ((with_reducible refine gate_builtin (b := .append) (xs := #[.tmp 83, .tmp 85]) rfl ?_); at_builtin; refine Kd.R_append k33 (w0 := w) w.heap.size rfl (.tmp 83) (.tmp 85) 31 33 (.agg #[(.int .i64 0), (.bool false), (.int .i64 0), (.string ⟨#[]⟩)]) 40 rfl Tryd.underlying31 info33 rfl (by decide) (by omega) u9 x9_1 (⟨((rd_T33 l1 (ji13)).f0), ((rd_T33 l1 (ji13)).f1), ((rd_T33 l1 (ji13)).f2), ((rd_T33 l1 (ji13)).f3)⟩ : S33) [.int .i64 ((rd_T33 l1 (ji13)).f0), .bool ((rd_T33 l1 (ji13)).f1), .int .i64 ((rd_T33 l1 (ji13)).f2), .string ((rd_T33 l1 (ji13)).f3)] (fun k_ => k_ ≠ gb138 ∧ k_ ≠ gb140) (fun _ => False) rfl (by first | (go_simp; done) | (go_simp; rfl)) ?aP (fun _ hk => hk.elim) ?aF ?aO ?aB ?aS ?aL ?_; (case aP => exact k33_mkM _ _ _ (⟨((rd_T33 l1 (ji13)).f0), ((rd_T33 l1 (ji13)).f1), ((rd_T33 l1 (ji13)).f2), ((rd_T33 l1 (ji13)).f3)⟩ : S33)); (case aB => exact (by repeat (first | (with_reducible first | exact HB.out | apply below_alloc | apply pw_below_drewN | apply below_drew1 | refine below_set ?_ GE136.out | refine below_set ?_ GE138.out | refine below_set ?_ GE140.out) | exact HB.out))); (case aF => exact (fun k_ hk => ⟨Kd.freshB (g := gb138) (o := .cells #[.int .i64 ((rd_T33 l1 (ji13)).f0), .bool ((rd_T33 l1 (ji13)).f1), .int .i64 ((rd_T33 l1 (ji13)).f2), .string ((rd_T33 l1 (ji13)).f3)] 33 (0, 0)) (by (with_reducible repeat (first | refine blk_drewN ?_ _ | refine blk_drew ?_ | refine blk_alloc ?_ _)); refine blk_put (cs := #[.int .i64 ((rd_T33 l1 (ji13)).f0), .bool ((rd_T33 l1 (ji13)).f1), .int .i64 ((rd_T33 l1 (ji13)).f2), .string ((rd_T33 l0 (ji13)).f3)]) ?_ 3 _ rfl; (with_reducible repeat (first | refine blk_drewN ?_ _ | refine blk_drew ?_ | refine blk_alloc ?_ _)); refine blk_put (cs := #[.int .i64 ((rd_T33 l1 (ji13)).f0), .bool ((rd_T33 l1 (ji13)).f1), .int .i64 ((rd_T33 l0 (ji13)).f2), .string ((rd_T33 l0 (ji13)).f3)]) ?_ 2 _ rfl; (with_reducible repeat (first | refine blk_drewN ?_ _ | refine blk_drew ?_ | refine blk_alloc ?_ _)); refine blk_put (cs := #[.int .i64 ((rd_T33 l1 (ji13)).f0), .bool ((rd_T33 l0 (ji13)).f1), .int .i64 ((rd_T33 l0 (ji13)).f2), .string ((rd_T33 l0 (ji13)).f3)]) ?_ 1 _ rfl; (with_reducible repeat (first | refine blk_drewN ?_ _ | refine blk_drew ?_ | refine blk_alloc ?_ _)); refine blk_put (cs := #[.int .i64 ((rd_T33 l0 (ji13)).f0), .bool ((rd_T33 l0 (ji13)).f1), .int .i64 ((rd_T33 l0 (ji13)).f2), .string ((rd_T33 l0 (ji13)).f3)]) ?_ 0 _ rfl; (with_reducible repeat (first | refine blk_drewN ?_ _ | refine blk_drew ?_ | refine blk_alloc ?_ _)); exact BK138.out) k_ hk, Kd.freshB (g := gb140) (o := .cells #[.int .i64 ((rd_T33 l1 (ji13)).f0), .bool ((rd_T33 l1 (ji13)).f1), .int .i64 ((rd_T33 l1 (ji13)).f2), .string ((rd_T33 l1 (ji13)).f3)] 33 (0, 0)) (by (with_reducible repeat (first | refine blk_drewN ?_ _ | refine blk_drew ?_ | refine blk_alloc ?_ _)); refine blk_far ?_ NB140_138.out _; (with_reducible repeat (first | refine blk_drewN ?_ _ | refine blk_drew ?_ | refine blk_alloc ?_ _)); refine blk_far ?_ NB140_138.out _; (with_reducible repeat (first | refine blk_drewN ?_ _ | refine blk_drew ?_ | refine blk_alloc ?_ _)); refine blk_far ?_ NB140_138.out _; (with_reducible repeat (first | refine blk_drewN ?_ _ | refine blk_drew ?_ | refine blk_alloc ?_ _)); refine blk_far ?_ NB140_138.out _; (with_reducible repeat (first | refine blk_drewN ?_ _ | refine blk_drew ?_ | refine blk_alloc ?_ _)); exact BK140.out) k_ hk⟩)); (case aO => exact (by (with_reducible repeat (first | apply Kd.R_alloc | apply Kd.R_drewN | apply Kd.R_drew)); exact Kd.R_mono (Kd.R_far (p := ⟨gb138, 3, none⟩) (Kd.R_far (p := ⟨gb138, 2, none⟩) (Kd.R_far (p := ⟨gb138, 1, none⟩) (Kd.R_far (p := ⟨gb138, 0, none⟩) (Kd.R_mono HO_9.out (fun k_ hk => (⟨hk, hk.1⟩ : _ ∧ k_ ≠ gb138))) (fun _ hk => hk.2) (.int .i64 ((rd_T33 l1 (ji13)).f0))) (fun _ hk => hk.2) (.bool ((rd_T33 l1 (ji13)).f1))) (fun _ hk => hk.2) (.int .i64 ((rd_T33 l1 (ji13)).f2))) (fun _ hk => hk.2) (.string ((rd_T33 l1 (ji13)).f3))) (fun _ hk => ⟨hk.1.1, hk.1.2⟩))); (case aS => exact (below_size (by repeat (first | (with_reducible first | exact HB.out | apply below_alloc | apply pw_below_drewN | apply below_drew1 | refine below_set ?_ GE136.out | refine below_set ?_ GE138.out | refine below_set ?_ GE140.out) | exact HB.out)))); (case aL => have := LMc83.out; omega); intro v152 w89 ho hb hg hat; rw [← Ny151.out] at ho; have n0_ := Aside0.mk (blk_grown (g := gb136) (o := .cells #[.int .i64 ((rd_T30 l3 x20_1).f0), .int .i64 ((rd_T30 l3 x20_1).f1)] 30 (0, 0)) (by (with_reducible repeat (first | refine blk_drewN ?_ _ | refine blk_drew ?_ | refine blk_alloc ?_ _)); refine blk_far ?_ NB136_138.out _; (with_reducible repeat (first | refine blk_drewN ?_ _ | refine blk_drew ?_ | refine blk_alloc ?_ _)); refine blk_far ?_ NB136_138.out _; (with_reducible repeat (first | refine blk_drewN ?_ _ | refine blk_drew ?_ | refine blk_alloc ?_ _)); refine blk_far ?_ NB136_138.out _; (with_reducible repeat (first | refine blk_drewN ?_ _ | refine blk_drew ?_ | refine blk_alloc ?_ _)); refine blk_far ?_ NB136_138.out _; (with_reducible repeat (first | refine blk_drewN ?_ _ | refine blk_drew ?_ | refine blk_alloc ?_ _)); exact BK136.out) hg (Kd.R_ne HO_9.out BK136.out (by decide))); have n1_ := Aside0.mk (blk_grown (g := gb138) (o := .cells #[.int .i64 ((rd_T33 l1 (ji13)).f0), .bool ((rd_T33 l1 (ji13)).f1), .int .i64 ((rd_T33 l1 (ji13)).f2), .string ((rd_T33 l1 (ji13)).f3)] 33 (0, 0)) (by (with_reducible repeat (first | refine blk_drewN ?_ _ | refine blk_drew ?_ | refine blk_alloc ?_ _)); refine blk_put (cs := #[.int .i64 ((rd_T33 l1 (ji13)).f0), .bool ((rd_T33 l1 (ji13)).f1), .int .i64 ((rd_T33 l1 (ji13)).f2), .string ((rd_T33 l0 (ji13)).f3)]) ?_ 3 _ rfl; (with_reducible repeat (first | refine blk_drewN ?_ _ | refine blk_drew ?_ | refine blk_alloc ?_ _)); refine blk_put (cs := #[.int .i64 ((rd_T33 l1 (ji13)).f0), .bool ((rd_T33 l1 (ji13)).f1), .int .i64 ((rd_T33 l0 (ji13)).f2), .string ((rd_T33 l0 (ji13)).f3)]) ?_ 2 _ rfl; (with_reducible repeat (first | refine blk_drewN ?_ _ | refine blk_drew ?_ | refine blk_alloc ?_ _)); refine blk_put (cs := #[.int .i64 ((rd_T33 l1 (ji13)).f0), .bool ((rd_T33 l0 (ji13)).f1), .int .i64 ((rd_T33 l0 (ji13)).f2), .string ((rd_T33 l0 (ji13)).f3)]) ?_ 1 _ rfl; (with_reducible repeat (first | refine blk_drewN ?_ _ | refine blk_drew ?_ | refine blk_alloc ?_ _)); refine blk_put (cs := #[.int .i64 ((rd_T33 l0 (ji13)).f0), .bool ((rd_T33 l0 (ji13)).f1), .int .i64 ((rd_T33 l0 (ji13)).f2), .string ((rd_T33 l0 (ji13)).f3)]) ?_ 0 _ rfl; (with_reducible repeat (first | refine blk_drewN ?_ _ | refine blk_drew ?_ | refine blk_alloc ?_ _)); exact BK138.out) hg (Kd.R_away HO_9.out (fun _ hk => hk.1))); have n2_ := Aside0.mk (blk_grown (g := gb140) (o := .cells #[.int .i64 ((rd_T33 l1 (ji13)).f0), .bool ((rd_T33 l1 (ji13)).f1), .int .i64 ((rd_T33 l1 (ji13)).f2), .string ((rd_T33 l1 (ji13)).f3)] 33 (0, 0)) (by (with_reducible repeat (first | refine blk_drewN ?_ _ | refine blk_drew ?_ | refine blk_alloc ?_ _)); refine blk_far ?_ NB140_138.out _; (with_reducible repeat (first | refine blk_drewN ?_ _ | refine blk_drew ?_ | refine blk_alloc ?_ _)); refine blk_far ?_ NB140_138.out _; (with_reducible repeat (first | refine blk_drewN ?_ _ | refine blk_drew ?_ | refine blk_alloc ?_ _)); refine blk_far ?_ NB140_138.out _; (with_reducible repeat (first | refine blk_drewN ?_ _ | refine blk_drew ?_ | refine blk_alloc ?_ _)); refine blk_far ?_ NB140_138.out _; (with_reducible repeat (first | refine blk_drewN ?_ _ | refine blk_drew ?_ | refine blk_alloc ?_ _)); exact BK140.out) hg (Kd.R_away HO_9.out (fun _ hk => hk.2))); have n3_ := Aside0.mk (hb); have n4_ := Aside0.mk (ho); clear BK136; clear BK138; clear BK140; clear HB; clear HO_9; have BK136 := n0_; have BK138 := n1_; have BK140 := n2_; have HB := n3_; have HO153 := n4_; clear n0_ n1_ n2_ n3_ n4_; clear ho hb hg hat))
                                        go_roundg kj68
                                        case measure => have := HK1.out; have := HJ42.out; have := HJ68.out; omega
                                        case rel => exact ⟨(y151), (wrap64 (x20_1 + 1)), (by first | rfl | (simp; done) | (simp [*]; done)), H', ⟨by have := HK1.out; have := HJ42.out; have := HJ68.out; omega⟩, ⟨by (with_reducible repeat (first | apply Kd.R_alloc | apply Kd.R_drewN | apply Kd.R_drew)); exact Kd.R_mono HO153.out (fun _ hk => trivial)⟩, ⟨by repeat (first | (with_reducible first | exact HB.out | apply below_alloc | apply pw_below_drewN | apply below_drew1 | refine below_set ?_ GE136.out | refine below_set ?_ GE138.out | refine below_set ?_ GE140.out) | exact HB.out)⟩⟩
                                      · rw [if_neg c83] at H
                                        exact absurd H (by simp)
                                    · replace c82 := Bool.eq_false_iff.mpr c82
                                      subst c82
                                      have H1 : (if ((rd_T30 l3 x20_1).f0) = 3 then ((hayloftref02_Compare.f ((rd_T33 l1 (ji13)).f0) ((rd_T33 l1 (ji13)).f1) ((rd_T33 l1 (ji13)).f2) ((rd_T33 l1 (ji13)).f3) ((rd_T33 l0 (ji13)).f0) ((rd_T33 l0 (ji13)).f1) ((rd_T33 l0 (ji13)).f2) ((rd_T33 l0 (ji13)).f3)).bind fun t154 => (if t154 > 0 then (if x9_1.length < 3518437208883 then (haylofttop_summed.l0 kj68 l0 l1 a2 (x9_1 ++ [(⟨((rd_T33 l1 (ji13)).f0), ((rd_T33 l1 (ji13)).f1), ((rd_T33 l1 (ji13)).f2), ((rd_T33 l1 (ji13)).f3)⟩ : S33)]) l3 (l3.length : Int) (wrap64 (x20_1 + 1))) else (none)) else (if x9_1.length < 3518437208883 then (haylofttop_summed.l0 kj68 l0 l1 a2 (x9_1 ++ [(⟨((rd_T33 l0 (ji13)).f0), ((rd_T33 l0 (ji13)).f1), ((rd_T33 l0 (ji13)).f2), ((rd_T33 l0 (ji13)).f3)⟩ : S33)]) l3 (l3.length : Int) (wrap64 (x20_1 + 1))) else (none)))) else (if x9_1.length < 3518437208883 then (haylofttop_summed.l0 kj68 l0 l1 a2 (x9_1 ++ [(⟨((rd_T33 l0 (ji13)).f0), ((rd_T33 l0 (ji13)).f1), ((rd_T33 l0 (ji13)).f2), ((rd_T33 l0 (ji13)).f3)⟩ : S33)]) l3 (l3.length : Int) (wrap64 (x20_1 + 1))) else (none))) = some r := by rw [if_neg (show ¬ (false = true) by decide)] at H; exact H
                                      clear H
                                      have H := H1
                                      clear H1
                                      by_cases c90 : ((rd_T30 l3 x20_1).f0) = 3
                                      · rw [if_pos c90] at H
                                        have c90b0 : (((rd_T30 l3 x20_1).f0) == 3) = true := beq_iff_eq.mpr c90
                                        have c90b1 : (((rd_T30 l3 x20_1).f0) != 3) = false := bne_eq_false_iff_eq.mpr c90
                                        clear c90
                                        replace H := Option.bind_eq_some_iff.mp H
                                        obtain ⟨t154, A910, H⟩ := H
                                        replace H : (if t154 > 0 then (if x9_1.length < 3518437208883 then (haylofttop_summed.l0 kj68 l0 l1 a2 (x9_1 ++ [(⟨((rd_T33 l1 (ji13)).f0), ((rd_T33 l1 (ji13)).f1), ((rd_T33 l1 (ji13)).f2), ((rd_T33 l1 (ji13)).f3)⟩ : S33)]) l3 (l3.length : Int) (wrap64 (x20_1 + 1))) else (none)) else (if x9_1.length < 3518437208883 then (haylofttop_summed.l0 kj68 l0 l1 a2 (x9_1 ++ [(⟨((rd_T33 l0 (ji13)).f0), ((rd_T33 l0 (ji13)).f1), ((rd_T33 l0 (ji13)).f2), ((rd_T33 l0 (ji13)).f3)⟩ : S33)]) l3 (l3.length : Int) (wrap64 (x20_1 + 1))) else (none))) = some r := H
                                        have A91 := Aside0.mk A910
                                        clear A910
                                        by_cases c92 : t154 > 0
                                        · rw [if_pos c92] at H
                                          have c92b0 : decide (0 < t154) = true := decide_eq_true c92
                                          clear c92
                                          by_cases c93 : x9_1.length < 3518437208883
                                          · rw [if_pos c93] at H
                                            have LMc93 := Aside0.mk c93
                                            clear c93
                                            obtain ⟨y155, hy155⟩ : ∃ y_ : List (S33), y_ = (x9_1 ++ [(⟨((rd_T33 l1 (ji13)).f0), ((rd_T33 l1 (ji13)).f1), ((rd_T33 l1 (ji13)).f2), ((rd_T33 l1 (ji13)).f3)⟩ : S33)]) := ⟨_, rfl⟩
                                            replace H : (haylofttop_summed.l0 kj68 l0 l1 a2 y155 l3 (l3.length : Int) (wrap64 (x20_1 + 1))) = some r := by first | (rw [hy155]; with_reducible exact H) | (have H2_ := (Option.bind_some _ _).symm.trans H; rw [hy155]; with_reducible exact H2_) | (have H2_ := (Option.bind_some _ _).symm.trans H; with_reducible exact H2_) | with_reducible exact H | (rw [hy155]; exact H) | exact H
                                            have Ny155 := Aside0.mk hy155
                                            clear hy155
                                            have H' := Aside0.mk H
                                            clear H
                                            have hnb94 := NB136_138.out
                                            have hnc94 := NB138_136.out
                                            have hnb95 := NB136_140.out
                                            have hnc95 := NB140_136.out
                                            have hcz96_0 : wc.cell? ⟨gb136, 0, none⟩ = some (.int .i64 ((rd_T30 l3 x20_1).f0)) := (blk_cell BK136.out 0).trans rfl
                                            have hcz96_1 : wc.cell? ⟨gb136, 1, none⟩ = some (.int .i64 ((rd_T30 l3 x20_1).f1)) := (blk_cell BK136.out 1).trans rfl
                                            have hfz96_0 := blk_frozen BK136.out 0
                                            have hfz96_1 := blk_frozen BK136.out 1
                                            have hnb97 := NB140_138.out
                                            have hnc97 := NB138_140.out
                                            have hcz98_0 : wc.cell? ⟨gb140, 0, none⟩ = some (.int .i64 ((rd_T33 l1 (ji13)).f0)) := (blk_cell BK140.out 0).trans rfl
                                            have hcz98_1 : wc.cell? ⟨gb140, 1, none⟩ = some (.bool ((rd_T33 l1 (ji13)).f1)) := (blk_cell BK140.out 1).trans rfl
                                            have hcz98_2 : wc.cell? ⟨gb140, 2, none⟩ = some (.int .i64 ((rd_T33 l1 (ji13)).f2)) := (blk_cell BK140.out 2).trans rfl
                                            have hcz98_3 : wc.cell? ⟨gb140, 3, none⟩ = some (.string ((rd_T33 l1 (ji13)).f3)) := (blk_cell BK140.out 3).trans rfl
                                            have hfz98_0 := blk_frozen BK140.out 0
                                            have hfz98_1 := blk_frozen BK140.out 1
                                            have hfz98_2 := blk_frozen BK140.out 2
                                            have hfz98_3 := blk_frozen BK140.out 3
                                            have hcz99_0 : wc.cell? ⟨gb138, 0, none⟩ = some (.int .i64 ((rd_T33 l0 (ji13)).f0)) := (blk_cell BK138.out 0).trans rfl
                                            have hcz99_1 : wc.cell? ⟨gb138, 1, none⟩ = some (.bool ((rd_T33 l0 (ji13)).f1)) := (blk_cell BK138.out 1).trans rfl
                                            have hcz99_2 : wc.cell? ⟨gb138, 2, none⟩ = some (.int .i64 ((rd_T33 l0 (ji13)).f2)) := (blk_cell BK138.out 2).trans rfl
                                            have hcz99_3 : wc.cell? ⟨gb138, 3, none⟩ = some (.string ((rd_T33 l0 (ji13)).f3)) := (blk_cell BK138.out 3).trans rfl
                                            have hfz99_0 := blk_frozen BK138.out 0
                                            have hfz99_1 := blk_frozen BK138.out 1
                                            have hfz99_2 := blk_frozen BK138.out 2
                                            have hfz99_3 := blk_frozen BK138.out 3
                                            go_wp2_with (first | (go_at_call 54; (with_reducible refine (hayloftref02_Compare.calls ((rd_T33 l1 (ji13)).f0) ((rd_T33 l1 (ji13)).f1) ((rd_T33 l1 (ji13)).f2) ((rd_T33 l1 (ji13)).f3) ((rd_T33 l0 (ji13)).f0) ((rd_T33 l0 (ji13)).f1) ((rd_T33 l0 (ji13)).f2) ((rd_T33 l0 (ji13)).f3) t154 _ A91.out).mono ?_); rintro e w100 ⟨rfl, hb⟩; have n0_ := Aside0.mk (Kd.R_below (by (with_reducible repeat (first | apply Kd.R_alloc | apply Kd.R_drewN | apply Kd.R_drew)); exact HO_9.out) hb); have n1_ := Aside0.mk (blk_below (g := gb136) (o := .cells #[.int .i64 ((rd_T30 l3 x20_1).f0), .int .i64 ((rd_T30 l3 x20_1).f1)] 30 (0, 0)) (by (with_reducible repeat (first | refine blk_drewN ?_ _ | refine blk_drew ?_ | refine blk_alloc ?_ _)); exact BK136.out) hb); have n2_ := Aside0.mk (blk_below (g := gb138) (o := .cells #[.int .i64 ((rd_T33 l0 (ji13)).f0), .bool ((rd_T33 l0 (ji13)).f1), .int .i64 ((rd_T33 l0 (ji13)).f2), .string ((rd_T33 l0 (ji13)).f3)] 33 (0, 0)) (by (with_reducible repeat (first | refine blk_drewN ?_ _ | refine blk_drew ?_ | refine blk_alloc ?_ _)); exact BK138.out) hb); have n3_ := Aside0.mk (blk_below (g := gb140) (o := .cells #[.int .i64 ((rd_T33 l1 (ji13)).f0), .bool ((rd_T33 l1 (ji13)).f1), .int .i64 ((rd_T33 l1 (ji13)).f2), .string ((rd_T33 l1 (ji13)).f3)] 33 (0, 0)) (by (with_reducible repeat (first | refine blk_drewN ?_ _ | refine blk_drew ?_ | refine blk_alloc ?_ _)); exact BK140.out) hb); have n4_ := Aside0.mk (below_step (by repeat (first | (with_reducible first | exact HB.out | apply below_alloc | apply pw_below_drewN | apply below_drew1 | refine below_set ?_ GE136.out | refine below_set ?_ GE138.out | refine below_set ?_ GE140.out) | exact HB.out)) hb); clear HO_9; clear BK136; clear BK138; clear BK140; clear HB; have HO_9 := n0_; have BK136 := n1_; have BK138 := n2_; have BK140 := n3_; have HB := n4_; clear n0_ n1_ n2_ n3_ n4_; (try clear hb); (try clear hb2); (try clear hk); (try clear hi); have hcz101_0 : w100.cell? ⟨gb140, 0, none⟩ = some (.int .i64 ((rd_T33 l1 (ji13)).f0)) := (blk_cell BK140.out 0).trans rfl; have hcz101_1 : w100.cell? ⟨gb140, 1, none⟩ = some (.bool ((rd_T33 l1 (ji13)).f1)) := (blk_cell BK140.out 1).trans rfl; have hcz101_2 : w100.cell? ⟨gb140, 2, none⟩ = some (.int .i64 ((rd_T33 l1 (ji13)).f2)) := (blk_cell BK140.out 2).trans rfl; have hcz101_3 : w100.cell? ⟨gb140, 3, none⟩ = some (.string ((rd_T33 l1 (ji13)).f3)) := (blk_cell BK140.out 3).trans rfl; have hfz101_0 := blk_frozen BK140.out 0; have hfz101_1 := blk_frozen BK140.out 1; have hfz101_2 := blk_frozen BK140.out 2; have hfz101_3 := blk_frozen BK140.out 3; have hcz102_0 : w100.cell? ⟨gb138, 0, none⟩ = some (.int .i64 ((rd_T33 l0 (ji13)).f0)) := (blk_cell BK138.out 0).trans rfl; have hcz102_1 : w100.cell? ⟨gb138, 1, none⟩ = some (.bool ((rd_T33 l0 (ji13)).f1)) := (blk_cell BK138.out 1).trans rfl; have hcz102_2 : w100.cell? ⟨gb138, 2, none⟩ = some (.int .i64 ((rd_T33 l0 (ji13)).f2)) := (blk_cell BK138.out 2).trans rfl; have hcz102_3 : w100.cell? ⟨gb138, 3, none⟩ = some (.string ((rd_T33 l0 (ji13)).f3)) := (blk_cell BK138.out 3).trans rfl; have hfz102_0 := blk_frozen BK138.out 0; have hfz102_1 := blk_frozen BK138.out 1; have hfz102_2 := blk_frozen BK138.out 2; have hfz102_3 := blk_frozen BK138.out 3) | ((with_reducible refine gate_builtin (b := .append) (xs := #[.tmp 83, .tmp 85]) rfl ?_); at_builtin; refine Kd.R_append k33 (w0 := w) w.heap.size rfl (.tmp 83) (.tmp 85) 31 33 (.agg #[(.int .i64 0), (.bool false), (.int .i64 0), (.string ⟨#[]⟩)]) 40 rfl Tryd.underlying31 info33 rfl (by decide) (by omega) u9 x9_1 (⟨((rd_T33 l1 (ji13)).f0), ((rd_T33 l1 (ji13)).f1), ((rd_T33 l1 (ji13)).f2), ((rd_T33 l1 (ji13)).f3)⟩ : S33) [.int .i64 ((rd_T33 l1 (ji13)).f0), .bool ((rd_T33 l1 (ji13)).f1), .int .i64 ((rd_T33 l1 (ji13)).f2), .string ((rd_T33 l1 (ji13)).f3)] (fun k_ => k_ ≠ gb138 ∧ k_ ≠ gb140) (fun _ => False) rfl (by first | (go_simp; done) | (go_simp; rfl)) ?aP (fun _ hk => hk.elim) ?aF ?aO ?aB ?aS ?aL ?_; (case aP => exact k33_mkM _ _ _ (⟨((rd_T33 l1 (ji13)).f0), ((rd_T33 l1 (ji13)).f1), ((rd_T33 l1 (ji13)).f2), ((rd_T33 l1 (ji13)).f3)⟩ : S33)); (case aB => exact (by repeat (first | (with_reducible first | exact HB.out | apply below_alloc | apply pw_below_drewN | apply below_drew1 | refine below_set ?_ GE136.out | refine below_set ?_ GE138.out | refine below_set ?_ GE140.out) | exact HB.out))); (case aF => exact (fun k_ hk => ⟨Kd.freshB (g := gb138) (o := .cells #[.int .i64 ((rd_T33 l1 (ji13)).f0), .bool ((rd_T33 l1 (ji13)).f1), .int .i64 ((rd_T33 l1 (ji13)).f2), .string ((rd_T33 l1 (ji13)).f3)] 33 (0, 0)) (by (with_reducible repeat (first | refine blk_drewN ?_ _ | refine blk_drew ?_ | refine blk_alloc ?_ _)); refine blk_put (cs := #[.int .i64 ((rd_T33 l1 (ji13)).f0), .bool ((rd_T33 l1 (ji13)).f1), .int .i64 ((rd_T33 l1 (ji13)).f2), .string ((rd_T33 l0 (ji13)).f3)]) ?_ 3 _ rfl; (with_reducible repeat (first | refine blk_drewN ?_ _ | refine blk_drew ?_ | refine blk_alloc ?_ _)); refine blk_put (cs := #[.int .i64 ((rd_T33 l1 (ji13)).f0), .bool ((rd_T33 l1 (ji13)).f1), .int .i64 ((rd_T33 l0 (ji13)).f2), .string ((rd_T33 l0 (ji13)).f3)]) ?_ 2 _ rfl; (with_reducible repeat (first | refine blk_drewN ?_ _ | refine blk_drew ?_ | refine blk_alloc ?_ _)); refine blk_put (cs := #[.int .i64 ((rd_T33 l1 (ji13)).f0), .bool ((rd_T33 l0 (ji13)).f1), .int .i64 ((rd_T33 l0 (ji13)).f2), .string ((rd_T33 l0 (ji13)).f3)]) ?_ 1 _ rfl; (with_reducible repeat (first | refine blk_drewN ?_ _ | refine blk_drew ?_ | refine blk_alloc ?_ _)); refine blk_put (cs := #[.int .i64 ((rd_T33 l0 (ji13)).f0), .bool ((rd_T33 l0 (ji13)).f1), .int .i64 ((rd_T33 l0 (ji13)).f2), .string ((rd_T33 l0 (ji13)).f3)]) ?_ 0 _ rfl; (with_reducible repeat (first | refine blk_drewN ?_ _ | refine blk_drew ?_ | refine blk_alloc ?_ _)); exact BK138.out) k_ hk, Kd.freshB (g := gb140) (o := .cells #[.int .i64 ((rd_T33 l1 (ji13)).f0), .bool ((rd_T33 l1 (ji13)).f1), .int .i64 ((rd_T33 l1 (ji13)).f2), .string ((rd_T33 l1 (ji13)).f3)] 33 (0, 0)) (by (with_reducible repeat (first | refine blk_drewN ?_ _ | refine blk_drew ?_ | refine blk_alloc ?_ _)); refine blk_far ?_ NB140_138.out _; (with_reducible repeat (first | refine blk_drewN ?_ _ | refine blk_drew ?_ | refine blk_alloc ?_ _)); refine blk_far ?_ NB140_138.out _; (with_reducible repeat (first | refine blk_drewN ?_ _ | refine blk_drew ?_ | refine blk_alloc ?_ _)); refine blk_far ?_ NB140_138.out _; (with_reducible repeat (first | refine blk_drewN ?_ _ | refine blk_drew ?_ | refine blk_alloc ?_ _)); refine blk_far ?_ NB140_138.out _; (with_reducible repeat (first | refine blk_drewN ?_ _ | refine blk_drew ?_ | refine blk_alloc ?_ _)); exact BK140.out) k_ hk⟩)); (case aO => exact (by (with_reducible repeat (first | apply Kd.R_alloc | apply Kd.R_drewN | apply Kd.R_drew)); exact Kd.R_mono (Kd.R_far (p := ⟨gb138, 3, none⟩) (Kd.R_far (p := ⟨gb138, 2, none⟩) (Kd.R_far (p := ⟨gb138, 1, none⟩) (Kd.R_far (p := ⟨gb138, 0, none⟩) (Kd.R_mono HO_9.out (fun k_ hk => (⟨hk, hk.1⟩ : _ ∧ k_ ≠ gb138))) (fun _ hk => hk.2) (.int .i64 ((rd_T33 l1 (ji13)).f0))) (fun _ hk => hk.2) (.bool ((rd_T33 l1 (ji13)).f1))) (fun _ hk => hk.2) (.int .i64 ((rd_T33 l1 (ji13)).f2))) (fun _ hk => hk.2) (.string ((rd_T33 l1 (ji13)).f3))) (fun _ hk => ⟨hk.1.1, hk.1.2⟩))); (case aS => exact (below_size (by repeat (first | (with_reducible first | exact HB.out | apply below_alloc | apply pw_below_drewN | apply below_drew1 | refine below_set ?_ GE136.out | refine below_set ?_ GE138.out | refine below_set ?_ GE140.out) | exact HB.out)))); (case aL => have := LMc93.out; omega); intro v156 w103 ho hb hg hat; rw [← Ny155.out] at ho; have n0_ := Aside0.mk (blk_grown (g := gb136) (o := .cells #[.int .i64 ((rd_T30 l3 x20_1).f0), .int .i64 ((rd_T30 l3 x20_1).f1)] 30 (0, 0)) (by (with_reducible repeat (first | refine blk_drewN ?_ _ | refine blk_drew ?_ | refine blk_alloc ?_ _)); refine blk_far ?_ NB136_138.out _; (with_reducible repeat (first | refine blk_drewN ?_ _ | refine blk_drew ?_ | refine blk_alloc ?_ _)); refine blk_far ?_ NB136_138.out _; (with_reducible repeat (first | refine blk_drewN ?_ _ | refine blk_drew ?_ | refine blk_alloc ?_ _)); refine blk_far ?_ NB136_138.out _; (with_reducible repeat (first | refine blk_drewN ?_ _ | refine blk_drew ?_ | refine blk_alloc ?_ _)); refine blk_far ?_ NB136_138.out _; (with_reducible repeat (first | refine blk_drewN ?_ _ | refine blk_drew ?_ | refine blk_alloc ?_ _)); exact BK136.out) hg (Kd.R_ne HO_9.out BK136.out (by decide))); have n1_ := Aside0.mk (blk_grown (g := gb138) (o := .cells #[.int .i64 ((rd_T33 l1 (ji13)).f0), .bool ((rd_T33 l1 (ji13)).f1), .int .i64 ((rd_T33 l1 (ji13)).f2), .string ((rd_T33 l1 (ji13)).f3)] 33 (0, 0)) (by (with_reducible repeat (first | refine blk_drewN ?_ _ | refine blk_drew ?_ | refine blk_alloc ?_ _)); refine blk_put (cs := #[.int .i64 ((rd_T33 l1 (ji13)).f0), .bool ((rd_T33 l1 (ji13)).f1), .int .i64 ((rd_T33 l1 (ji13)).f2), .string ((rd_T33 l0 (ji13)).f3)]) ?_ 3 _ rfl; (with_reducible repeat (first | refine blk_drewN ?_ _ | refine blk_drew ?_ | refine blk_alloc ?_ _)); refine blk_put (cs := #[.int .i64 ((rd_T33 l1 (ji13)).f0), .bool ((rd_T33 l1 (ji13)).f1), .int .i64 ((rd_T33 l0 (ji13)).f2), .string ((rd_T33 l0 (ji13)).f3)]) ?_ 2 _ rfl; (with_reducible repeat (first | refine blk_drewN ?_ _ | refine blk_drew ?_ | refine blk_alloc ?_ _)); refine blk_put (cs := #[.int .i64 ((rd_T33 l1 (ji13)).f0), .bool ((rd_T33 l0 (ji13)).f1), .int .i64 ((rd_T33 l0 (ji13)).f2), .string ((rd_T33 l0 (ji13)).f3)]) ?_ 1 _ rfl; (with_reducible repeat (first | refine blk_drewN ?_ _ | refine blk_drew ?_ | refine blk_alloc ?_ _)); refine blk_put (cs := #[.int .i64 ((rd_T33 l0 (ji13)).f0), .bool ((rd_T33 l0 (ji13)).f1), .int .i64 ((rd_T33 l0 (ji13)).f2), .string ((rd_T33 l0 (ji13)).f3)]) ?_ 0 _ rfl; (with_reducible repeat (first | refine blk_drewN ?_ _ | refine blk_drew ?_ | refine blk_alloc ?_ _)); exact BK138.out) hg (Kd.R_away HO_9.out (fun _ hk => hk.1))); have n2_ := Aside0.mk (blk_grown (g := gb140) (o := .cells #[.int .i64 ((rd_T33 l1 (ji13)).f0), .bool ((rd_T33 l1 (ji13)).f1), .int .i64 ((rd_T33 l1 (ji13)).f2), .string ((rd_T33 l1 (ji13)).f3)] 33 (0, 0)) (by (with_reducible repeat (first | refine blk_drewN ?_ _ | refine blk_drew ?_ | refine blk_alloc ?_ _)); refine blk_far ?_ NB140_138.out _; (with_reducible repeat (first | refine blk_drewN ?_ _ | refine blk_drew ?_ | refine blk_alloc ?_ _)); refine blk_far ?_ NB140_138.out _; (with_reducible repeat (first | refine blk_drewN ?_ _ | refine blk_drew ?_ | refine blk_alloc ?_ _)); refine blk_far ?_ NB140_138.out _; (with_reducible repeat (first | refine blk_drewN ?_ _ | refine blk_drew ?_ | refine blk_alloc ?_ _)); refine blk_far ?_ NB140_138.out _; (with_reducible repeat (first | refine blk_drewN ?_ _ | refine blk_drew ?_ | refine blk_alloc ?_ _)); exact BK140.out) hg (Kd.R_away HO_9.out (fun _ hk => hk.2))); have n3_ := Aside0.mk (hb); have n4_ := Aside0.mk (ho); clear BK136; clear BK138; clear BK140; clear HB; clear HO_9; have BK136 := n0_; have BK138 := n1_; have BK140 := n2_; have HB := n3_; have HO157 := n4_; clear n0_ n1_ n2_ n3_ n4_; clear ho hb hg hat))
                                            go_roundg kj68
                                            case measure => have := HK1.out; have := HJ42.out; have := HJ68.out; omega
                                            case rel => exact ⟨(y155), (wrap64 (x20_1 + 1)), (by first | rfl | (simp; done) | (simp [*]; done)), H', ⟨by have := HK1.out; have := HJ42.out; have := HJ68.out; omega⟩, ⟨by (with_reducible repeat (first | apply Kd.R_alloc | apply Kd.R_drewN | apply Kd.R_drew)); exact Kd.R_mono HO157.out (fun _ hk => trivial)⟩, ⟨by repeat (first | (with_reducible first | exact HB.out | apply below_alloc | apply pw_below_drewN | apply below_drew1 | refine below_set ?_ GE136.out | refine below_set ?_ GE138.out | refine below_set ?_ GE140.out) | exact HB.out)⟩⟩
                                          · rw [if_neg c93] at H
                                            exact absurd H (by simp)
                                        · rw [if_neg c92] at H
                                          have c92b0 : decide (0 < t154) = false := decide_eq_false c92
                                          clear c92
                                          by_cases c104 : x9_1.length < 3518437208883
                                          · rw [if_pos c104] at H
                                            have LMc104 := Aside0.mk c104
                                            clear c104
                                            obtain ⟨y158, hy158⟩ : ∃ y_ : List (S33), y_ = (x9_1 ++ [(⟨((rd_T33 l0 (ji13)).f0), ((rd_T33 l0 (ji13)).f1), ((rd_T33 l0 (ji13)).f2), ((rd_T33 l0 (ji13)).f3)⟩ : S33)]) := ⟨_, rfl⟩
                                            replace H : (haylofttop_summed.l0 kj68 l0 l1 a2 y158 l3 (l3.length : Int) (wrap64 (x20_1 + 1))) = some r := by first | (rw [hy158]; with_reducible exact H) | (have H2_ := (Option.bind_some _ _).symm.trans H; rw [hy158]; with_reducible exact H2_) | (have H2_ := (Option.bind_some _ _).symm.trans H; with_reducible exact H2_) | with_reducible exact H | (rw [hy158]; exact H) | exact H
                                            have Ny158 := Aside0.mk hy158
                                            clear hy158
                                            have H' := Aside0.mk H
                                            clear H
                                            have hnb105 := NB136_138.out
                                            have hnc105 := NB138_136.out
                                            have hnb106 := NB136_140.out
                                            have hnc106 := NB140_136.out
                                            have hcz107_0 : wc.cell? ⟨gb136, 0, none⟩ = some (.int .i64 ((rd_T30 l3 x20_1).f0)) := (blk_cell BK136.out 0).trans rfl
                                            have hcz107_1 : wc.cell? ⟨gb136, 1, none⟩ = some (.int .i64 ((rd_T30 l3 x20_1).f1)) := (blk_cell BK136.out 1).trans rfl
                                            have hfz107_0 := blk_frozen BK136.out 0
                                            have hfz107_1 := blk_frozen BK136.out 1
                                            have hnb108 := NB140_138.out
                                            have hnc108 := NB138_140.out
                                            have hcz109_0 : wc.cell? ⟨gb140, 0, none⟩ = some (.int .i64 ((rd_T33 l1 (ji13)).f0)) := (blk_cell BK140.out 0).trans rfl
                                            have hcz109_1 : wc.cell? ⟨gb140, 1, none⟩ = some (.bool ((rd_T33 l1 (ji13)).f1)) := (blk_cell BK140.out 1).trans rfl
                                            have hcz109_2 : wc.cell? ⟨gb140, 2, none⟩ = some (.int .i64 ((rd_T33 l1 (ji13)).f2)) := (blk_cell BK140.out 2).trans rfl
                                            have hcz109_3 : wc.cell? ⟨gb140, 3, none⟩ = some (.string ((rd_T33 l1 (ji13)).f3)) := (blk_cell BK140.out 3).trans rfl
                                            have hfz109_0 := blk_frozen BK140.out 0
                                            have hfz109_1 := blk_frozen BK140.out 1
                                            have hfz109_2 := blk_frozen BK140.out 2
                                            have hfz109_3 := blk_frozen BK140.out 3
                                            have hcz110_0 : wc.cell? ⟨gb138, 0, none⟩ = some (.int .i64 ((rd_T33 l0 (ji13)).f0)) := (blk_cell BK138.out 0).trans rfl
                                            have hcz110_1 : wc.cell? ⟨gb138, 1, none⟩ = some (.bool ((rd_T33 l0 (ji13)).f1)) := (blk_cell BK138.out 1).trans rfl
                                            have hcz110_2 : wc.cell? ⟨gb138, 2, none⟩ = some (.int .i64 ((rd_T33 l0 (ji13)).f2)) := (blk_cell BK138.out 2).trans rfl
                                            have hcz110_3 : wc.cell? ⟨gb138, 3, none⟩ = some (.string ((rd_T33 l0 (ji13)).f3)) := (blk_cell BK138.out 3).trans rfl
                                            have hfz110_0 := blk_frozen BK138.out 0
                                            have hfz110_1 := blk_frozen BK138.out 1
                                            have hfz110_2 := blk_frozen BK138.out 2
                                            have hfz110_3 := blk_frozen BK138.out 3
                                            go_wp2_with (first | (go_at_call 54; (with_reducible refine (hayloftref02_Compare.calls ((rd_T33 l1 (ji13)).f0) ((rd_T33 l1 (ji13)).f1) ((rd_T33 l1 (ji13)).f2) ((rd_T33 l1 (ji13)).f3) ((rd_T33 l0 (ji13)).f0) ((rd_T33 l0 (ji13)).f1) ((rd_T33 l0 (ji13)).f2) ((rd_T33 l0 (ji13)).f3) t154 _ A91.out).mono ?_); rintro e w111 ⟨rfl, hb⟩; have n0_ := Aside0.mk (Kd.R_below (by (with_reducible repeat (first | apply Kd.R_alloc | apply Kd.R_drewN | apply Kd.R_drew)); exact HO_9.out) hb); have n1_ := Aside0.mk (blk_below (g := gb136) (o := .cells #[.int .i64 ((rd_T30 l3 x20_1).f0), .int .i64 ((rd_T30 l3 x20_1).f1)] 30 (0, 0)) (by (with_reducible repeat (first | refine blk_drewN ?_ _ | refine blk_drew ?_ | refine blk_alloc ?_ _)); exact BK136.out) hb); have n2_ := Aside0.mk (blk_below (g := gb138) (o := .cells #[.int .i64 ((rd_T33 l0 (ji13)).f0), .bool ((rd_T33 l0 (ji13)).f1), .int .i64 ((rd_T33 l0 (ji13)).f2), .string ((rd_T33 l0 (ji13)).f3)] 33 (0, 0)) (by (with_reducible repeat (first | refine blk_drewN ?_ _ | refine blk_drew ?_ | refine blk_alloc ?_ _)); exact BK138.out) hb); have n3_ := Aside0.mk (blk_below (g := gb140) (o := .cells #[.int .i64 ((rd_T33 l1 (ji13)).f0), .bool ((rd_T33 l1 (ji13)).f1), .int .i64 ((rd_T33 l1 (ji13)).f2), .string ((rd_T33 l1 (ji13)).f3)] 33 (0, 0)) (by (with_reducible repeat (first | refine blk_drewN ?_ _ | refine blk_drew ?_ | refine blk_alloc ?_ _)); exact BK140.out) hb); have n4_ := Aside0.mk (below_step (by repeat (first | (with_reducible first | exact HB.out | apply below_alloc | apply pw_below_drewN | apply below_drew1 | refine below_set ?_ GE136.out | refine below_set ?_ GE138.out | refine below_set ?_ GE140.out) | exact HB.out)) hb); clear HO_9; clear BK136; clear BK138; clear BK140; clear HB; have HO_9 := n0_; have BK136 := n1_; have BK138 := n2_; have BK140 := n3_; have HB := n4_; clear n0_ n1_ n2_ n3_ n4_; (try clear hb); (try clear hb2); (try clear hk); (try clear hi); have hcz112_0 : w111.cell? ⟨gb138, 0, none⟩ = some (.int .i64 ((rd_T33 l0 (ji13)).f0)) := (blk_cell BK138.out 0).trans rfl; have hcz112_1 : w111.cell? ⟨gb138, 1, none⟩ = some (.bool ((rd_T33 l0 (ji13)).f1)) := (blk_cell BK138.out 1).trans rfl; have hcz112_2 : w111.cell? ⟨gb138, 2, none⟩ = some (.int .i64 ((rd_T33 l0 (ji13)).f2)) := (blk_cell BK138.out 2).trans rfl; have hcz112_3 : w111.cell? ⟨gb138, 3, none⟩ = some (.string ((rd_T33 l0 (ji13)).f3)) := (blk_cell BK138.out 3).trans rfl; have hfz112_0 := blk_frozen BK138.out 0; have hfz112_1 := blk_frozen BK138.out 1; have hfz112_2 := blk_frozen BK138.out 2; have hfz112_3 := blk_frozen BK138.out 3) | ((with_reducible refine gate_builtin (b := .append) (xs := #[.tmp 83, .tmp 85]) rfl ?_); at_builtin; refine Kd.R_append k33 (w0 := w) w.heap.size rfl (.tmp 83) (.tmp 85) 31 33 (.agg #[(.int .i64 0), (.bool false), (.int .i64 0), (.string ⟨#[]⟩)]) 40 rfl Tryd.underlying31 info33 rfl (by decide) (by omega) u9 x9_1 (⟨((rd_T33 l0 (ji13)).f0), ((rd_T33 l0 (ji13)).f1), ((rd_T33 l0 (ji13)).f2), ((rd_T33 l0 (ji13)).f3)⟩ : S33) [.int .i64 ((rd_T33 l0 (ji13)).f0), .bool ((rd_T33 l0 (ji13)).f1), .int .i64 ((rd_T33 l0 (ji13)).f2), .string ((rd_T33 l0 (ji13)).f3)] (fun k_ => k_ ≠ gb138 ∧ k_ ≠ gb140) (fun _ => False) rfl rfl ?aP (fun _ hk => hk.elim) ?aF ?aO ?aB ?aS ?aL ?_; (case aP => exact k33_mkM _ _ _ (⟨((rd_T33 l0 (ji13)).f0), ((rd_T33 l0 (ji13)).f1), ((rd_T33 l0 (ji13)).f2), ((rd_T33 l0 (ji13)).f3)⟩ : S33)); (case aB => exact (by repeat (first | (with_reducible first | exact HB.out | apply below_alloc | apply pw_below_drewN | apply below_drew1 | refine below_set ?_ GE136.out | refine below_set ?_ GE138.out | refine below_set ?_ GE140.out) | exact HB.out))); (case aF => exact (fun k_ hk => ⟨Kd.freshB (g := gb138) (o := .cells #[.int .i64 ((rd_T33 l0 (ji13)).f0), .bool ((rd_T33 l0 (ji13)).f1), .int .i64 ((rd_T33 l0 (ji13)).f2), .string ((rd_T33 l0 (ji13)).f3)] 33 (0, 0)) (by (with_reducible repeat (first | refine blk_drewN ?_ _ | refine blk_drew ?_ | refine blk_alloc ?_ _)); exact BK138.out) k_ hk, Kd.freshB (g := gb140) (o := .cells #[.int .i64 ((rd_T33 l1 (ji13)).f0), .bool ((rd_T33 l1 (ji13)).f1), .int .i64 ((rd_T33 l1 (ji13)).f2), .string ((rd_T33 l1 (ji13)).f3)] 33 (0, 0)) (by (with_reducible repeat (first | refine blk_drewN ?_ _ | refine blk_drew ?_ | refine blk_alloc ?_ _)); exact BK140.out) k_ hk⟩)); (case aO => exact (by (with_reducible repeat (first | apply Kd.R_alloc | apply Kd.R_drewN | apply Kd.R_drew)); exact HO_9.out)); (case aS => exact (below_size (by repeat (first | (with_reducible first | exact HB.out | apply below_alloc | apply pw_below_drewN | apply below_drew1 | refine below_set ?_ GE136.out | refine below_set ?_ GE138.out | refine below_set ?_ GE140.out) | exact HB.out)))); (case aL => have := LMc104.out; omega); intro v159 w113 ho hb hg hat; rw [← Ny158.out] at ho; have n0_ := Aside0.mk (blk_grown (g := gb136) (o := .cells #[.int .i64 ((rd_T30 l3 x20_1).f0), .int .i64 ((rd_T30 l3 x20_1).f1)] 30 (0, 0)) (by (with_reducible repeat (first | refine blk_drewN ?_ _ | refine blk_drew ?_ | refine blk_alloc ?_ _)); exact BK136.out) hg (Kd.R_ne HO_9.out BK136.out (by decide))); have n1_ := Aside0.mk (blk_grown (g := gb138) (o := .cells #[.int .i64 ((rd_T33 l0 (ji13)).f0), .bool ((rd_T33 l0 (ji13)).f1), .int .i64 ((rd_T33 l0 (ji13)).f2), .string ((rd_T33 l0 (ji13)).f3)] 33 (0, 0)) (by (with_reducible repeat (first | refine blk_drewN ?_ _ | refine blk_drew ?_ | refine blk_alloc ?_ _)); exact BK138.out) hg (Kd.R_away HO_9.out (fun _ hk => hk.1))); have n2_ := Aside0.mk (blk_grown (g := gb140) (o := .cells #[.int .i64 ((rd_T33 l1 (ji13)).f0), .bool ((rd_T33 l1 (ji13)).f1), .int .i64 ((rd_T33 l1 (ji13)).f2), .string ((rd_T33 l1 (ji13)).f3)] 33 (0, 0)) (by (with_reducible repeat (first | refine blk_drewN ?_ _ | refine blk_drew ?_ | refine blk_alloc ?_ _)); exact BK140.out) hg (Kd.R_away HO_9.out (fun _ hk => hk.2))); have n3_ := Aside0.mk (hb); have n4_ := Aside0.mk (ho); clear BK136; clear BK138; clear BK140; clear HB; clear HO_9; have BK136 := n0_; have BK138 := n1_; have BK140 := n2_; have HB := n3_; have HO160 := n4_; clear n0_ n1_ n2_ n3_ n4_; clear ho hb hg hat))
                                            go_roundg kj68
                                            case measure => have := HK1.out; have := HJ42.out; have := HJ68.out; omega
                                            case rel => exact ⟨(y158), (wrap64 (x20_1 + 1)), (by first | rfl | (simp; done) | (simp [*]; done)), H', ⟨by have := HK1.out; have := HJ42.out; have := HJ68.out; omega⟩, ⟨by (with_reducible repeat (first | apply Kd.R_alloc | apply Kd.R_drewN | apply Kd.R_drew)); exact Kd.R_mono HO160.out (fun _ hk => trivial)⟩, ⟨by repeat (first | (with_reducible first | exact HB.out | apply below_alloc | apply pw_below_drewN | apply below_drew1 | refine below_set ?_ GE136.out | refine below_set ?_ GE138.out | refine below_set ?_ GE140.out) | exact HB.out)⟩⟩
                                          · rw [if_neg c104] at H
                                            exact absurd H (by simp)
                                      · rw [if_neg c90] at H
                                        have c90b0 : (((rd_T30 l3 x20_1).f0) == 3) = false := beq_eq_false_iff_ne.mpr c90
                                        have c90b1 : (((rd_T30 l3 x20_1).f0) != 3) = true := bne_iff_ne.mpr c90
                                        by_cases c114 : x9_1.length < 3518437208883
                                        · rw [if_pos c114] at H
                                          have LMc114 := Aside0.mk c114
                                          clear c114
                                          obtain ⟨y161, hy161⟩ : ∃ y_ : List (S33), y_ = (x9_1 ++ [(⟨((rd_T33 l0 (ji13)).f0), ((rd_T33 l0 (ji13)).f1), ((rd_T33 l0 (ji13)).f2), ((rd_T33 l0 (ji13)).f3)⟩ : S33)]) := ⟨_, rfl⟩
                                          replace H : (haylofttop_summed.l0 kj68 l0 l1 a2 y161 l3 (l3.length : Int) (wrap64 (x20_1 + 1))) = some r := by first | (rw [hy161]; with_reducible exact H) | (have H2_ := (Option.bind_some _ _).symm.trans H; rw [hy161]; with_reducible exact H2_) | (have H2_ := (Option.bind_some _ _).symm.trans H; with_reducible exact H2_) | with_reducible exact H | (rw [hy161]; exact H) | exact H
                                          have Ny161 := Aside0.mk hy161
                                          clear hy161
                                          have H' := Aside0.mk H
                                          clear H
                                          have hnb115 := NB136_138.out
                                          have hnc115 := NB138_136.out
                                          have hnb116 := NB136_140.out
                                          have hnc116 := NB140_136.out
                                          have hcz117_0 : wc.cell? ⟨gb136, 0, none⟩ = some (.int .i64 ((rd_T30 l3 x20_1).f0)) := (blk_cell BK136.out 0).trans rfl
                                          have hcz117_1 : wc.cell? ⟨gb136, 1, none⟩ = some (.int .i64 ((rd_T30 l3 x20_1).f1)) := (blk_cell BK136.out 1).trans rfl
                                          have hfz117_0 := blk_frozen BK136.out 0
                                          have hfz117_1 := blk_frozen BK136.out 1
                                          have hnb118 := NB138_140.out
                                          have hnc118 := NB140_138.out
                                          have hcz119_0 : wc.cell? ⟨gb138, 0, none⟩ = some (.int .i64 ((rd_T33 l0 (ji13)).f0)) := (blk_cell BK138.out 0).trans rfl
                                          have hcz119_1 : wc.cell? ⟨gb138, 1, none⟩ = some (.bool ((rd_T33 l0 (ji13)).f1)) := (blk_cell BK138.out 1).trans rfl
                                          have hcz119_2 : wc.cell? ⟨gb138, 2, none⟩ = some (.int .i64 ((rd_T33 l0 (ji13)).f2)) := (blk_cell BK138.out 2).trans rfl
                                          have hcz119_3 : wc.cell? ⟨gb138, 3, none⟩ = some (.string ((rd_T33 l0 (ji13)).f3)) := (blk_cell BK138.out 3).trans rfl
                                          have hfz119_0 := blk_frozen BK138.out 0
                                          have hfz119_1 := blk_frozen BK138.out 1
                                          have hfz119_2 := blk_frozen BK138.out 2
                                          have hfz119_3 := blk_frozen BK138.out 3
                                          go_wp2_with (first | ((with_reducible refine gate_builtin (b := .append) (xs := #[.tmp 83, .tmp 85]) rfl ?_); at_builtin; refine Kd.R_append k33 (w0 := w) w.heap.size rfl (.tmp 83) (.tmp 85) 31 33 (.agg #[(.int .i64 0), (.bool false), (.int .i64 0), (.string ⟨#[]⟩)]) 40 rfl Tryd.underlying31 info33 rfl (by decide) (by omega) u9 x9_1 (⟨((rd_T33 l0 (ji13)).f0), ((rd_T33 l0 (ji13)).f1), ((rd_T33 l0 (ji13)).f2), ((rd_T33 l0 (ji13)).f3)⟩ : S33) [.int .i64 ((rd_T33 l0 (ji13)).f0), .bool ((rd_T33 l0 (ji13)).f1), .int .i64 ((rd_T33 l0 (ji13)).f2), .string ((rd_T33 l0 (ji13)).f3)] (fun k_ => k_ ≠ gb138 ∧ k_ ≠ gb140) (fun _ => False) rfl rfl ?aP (fun _ hk => hk.elim) ?aF ?aO ?aB ?aS ?aL ?_; (case aP => exact k33_mkM _ _ _ (⟨((rd_T33 l0 (ji13)).f0), ((rd_T33 l0 (ji13)).f1), ((rd_T33 l0 (ji13)).f2), ((rd_T33 l0 (ji13)).f3)⟩ : S33)); (case aB => exact (by repeat (first | (with_reducible first | exact HB.out | apply below_alloc | apply pw_below_drewN | apply below_drew1 | refine below_set ?_ GE136.out | refine below_set ?_ GE138.out | refine below_set ?_ GE140.out) | exact HB.out))); (case aF => exact (fun k_ hk => ⟨Kd.freshB (g := gb138) (o := .cells #[.int .i64 ((rd_T33 l0 (ji13)).f0), .bool ((rd_T33 l0 (ji13)).f1), .int .i64 ((rd_T33 l0 (ji13)).f2), .string ((rd_T33 l0 (ji13)).f3)] 33 (0, 0)) (by (with_reducible repeat (first | refine blk_drewN ?_ _ | refine blk_drew ?_ | refine blk_alloc ?_ _)); exact BK138.out) k_ hk, Kd.freshB (g := gb140) (o := .cells #[.int .i64 ((rd_T33 l1 (ji13)).f0), .bool ((rd_T33 l1 (ji13)).f1), .int .i64 ((rd_T33 l1 (ji13)).f2), .string ((rd_T33 l1 (ji13)).f3)] 33 (0, 0)) (by (with_reducible repeat (first | refine blk_drewN ?_ _ | refine blk_drew ?_ | refine blk_alloc ?_ _)); exact BK140.out) k_ hk⟩)); (case aO => exact (by (with_reducible repeat (first | apply Kd.R_alloc | apply Kd.R_drewN | apply Kd.R_drew)); exact HO_9.out)); (case aS => exact (below_size (by repeat (first | (with_reducible first | exact HB.out | apply below_alloc | apply pw_below_drewN | apply below_drew1 | refine below_set ?_ GE136.out | refine below_set ?_ GE138.out | refine below_set ?_ GE140.out) | exact HB.out)))); (case aL => have := LMc114.out; omega); intro v162 w120 ho hb hg hat; rw [← Ny161.out] at ho; have n0_ := Aside0.mk (blk_grown (g := gb136) (o := .cells #[.int .i64 ((rd_T30 l3 x20_1).f0), .int .i64 ((rd_T30 l3 x20_1).f1)] 30 (0, 0)) (by (with_reducible repeat (first | refine blk_drewN ?_ _ | refine blk_drew ?_ | refine blk_alloc ?_ _)); exact BK136.out) hg (Kd.R_ne HO_9.out BK136.out (by decide))); have n1_ := Aside0.mk (blk_grown (g := gb138) (o := .cells #[.int .i64 ((rd_T33 l0 (ji13)).f0), .bool ((rd_T33 l0 (ji13)).f1), .int .i64 ((rd_T33 l0 (ji13)).f2), .string ((rd_T33 l0 (ji13)).f3)] 33 (0, 0)) (by (with_reducible repeat (first | refine blk_drewN ?_ _ | refine blk_drew ?_ | refine blk_alloc ?_ _)); exact BK138.out) hg (Kd.R_away HO_9.out (fun _ hk => hk.1))); have n2_ := Aside0.mk (blk_grown (g := gb140) (o := .cells #[.int .i64 ((rd_T33 l1 (ji13)).f0), .bool ((rd_T33 l1 (ji13)).f1), .int .i64 ((rd_T33 l1 (ji13)).f2), .string ((rd_T33 l1 (ji13)).f3)] 33 (0, 0)) (by (with_reducible repeat (first | refine blk_drewN ?_ _ | refine blk_drew ?_ | refine blk_alloc ?_ _)); exact BK140.out) hg (Kd.R_away HO_9.out (fun _ hk => hk.2))); have n3_ := Aside0.mk (hb); have n4_ := Aside0.mk (ho); clear BK136; clear BK138; clear BK140; clear HB; clear HO_9; have BK136 := n0_; have BK138 := n1_; have BK140 := n2_; have HB := n3_; have HO163 := n4_; clear n0_ n1_ n2_ n3_ n4_; clear ho hb hg hat))
                                          go_roundg kj68
                                          case measure => have := HK1.out; have := HJ42.out; have := HJ68.out; omega
                                          case rel => exact ⟨(y161), (wrap64 (x20_1 + 1)), (by first | rfl | (simp; done) | (simp [*]; done)), H', ⟨by have := HK1.out; have := HJ42.out; have := HJ68.out; omega⟩, ⟨by (with_reducible repeat (first | apply Kd.R_alloc | apply Kd.R_drewN | apply Kd.R_drew)); exact Kd.R_mono HO163.out (fun _ hk => trivial)⟩, ⟨by repeat (first | (with_reducible first | exact HB.out | apply below_alloc | apply pw_below_drewN | apply below_drew1 | refine below_set ?_ GE136.out | refine below_set ?_ GE138.out | refine below_set ?_ GE140.out) | exact HB.out)⟩⟩
                                        · rw [if_neg c114] at H
                                          exact absurd H (by simp)
                    · rw [if_neg c16] at H
                      exact absurd H (by simp)
                  · rw [if_neg c15] at H
                    exact absurd H (by simp)
                · rw [if_neg c14] at H
                  exact absurd H (by simp)
              · rw [if_neg c12] at H
                exact absurd H (by simp)
            · rw [if_neg c11] at H
              exact absurd H (by simp)
          · rw [if_neg c10] at H
            have c10b0 : decide (x20_1 < (l3.length : Int)) = false := decide_eq_false c10
            clear c10
            obtain rfl := Option.some.inj H
            go_wp2
            go_ret
            exact ⟨_, by first | rfl | (simp [errW_none, errW_some] <;> rfl) | (simp [*, errW_none, errW_some] <;> rfl), by (with_reducible repeat (first | apply Kd.R_alloc | apply Kd.R_drewN | apply Kd.R_drew)); exact HO_9.out, by repeat (first | (with_reducible first | exact HB.out | apply below_alloc | apply pw_below_drewN | apply below_drew1) | exact HB.out)⟩
    · rw [if_neg c6] at H
      exact absurd H (by simp)
  · rw [if_neg c5] at H
    exact absurd H (by simp)

end Go.Proofs.YtgcmnomjdbofoaaDoor.QV
/- haylofttop.summed, together: walked. -/
namespace Go.Proofs.YtgcmnomjdbofoaaDoor.QV
open Go.RowKit Go.Proofs.YtgcmnomjdbofoaaDoorW.PrintWords Go.Proofs.YtgcmnomjdbofoaaDoor.SeqW Go.Shelf Go.Proofs.YtgcmnomjdbofoaaDoor.Op Go.Proofs.YtgcmnomjdbofoaaDoor.Stab
set_option linter.unusedVariables false
set_option linter.unusedSimpArgs false
set_option maxRecDepth 100000
attribute [local go_sem] Oper.semAt_some
theorem summed_loop (a b : Row) (n : Nat) (aggs : List Ag) (ha : a.length = n + aggs.length) (hb : b.length = n + aggs.length) (hm : n + aggs.length < 3518437208883) : ∀ (d i : Nat), i + d = aggs.length →
    Ev (fun k => haylofttop_summed.l0 k a b (n : Int) (a.take n ++ (List.range i).map (fun i => mergeV (aggs.getD i z30) (a.getD (n + i) zV) (b.getD (n + i) zV))) aggs (aggs.length : Int) (i : Int)) (summedL n aggs a b) := by
  intro d
  induction d with
  | zero =>
    intro i hi
    refine Ev.step (f := fun _ => some (summedL n aggs a b)) (fun k => ?_) (Ev.now _)
    simp only [haylofttop_summed.l0]
    rw [if_neg (by omega)]
    obtain rfl : i = aggs.length := by omega
    rfl
  | succ d ih =>
    intro i hi
    have hw : wrap64 ((i : Int) + 1) = ((i + 1 : Nat) : Int) := by unfold wrap64; omega
    have hw2 : wrap64 ((n : Int) + (i : Int)) = ((n + i : Nat) : Int) := by unfold wrap64; omega
    have hra : rd_T33 a ((n + i : Nat) : Int) = a.getD (n + i) zV := rfl
    have hrb : rd_T33 b ((n + i : Nat) : Int) = b.getD (n + i) zV := rfl
    have hrg : rd_T30 aggs (i : Int) = aggs.getD i z30 := rfl
    have hih := ih (i + 1) (by omega)
    rw [List.range_succ, List.map_append, List.map_singleton, ← List.append_assoc] at hih
    have hol : (a.take n ++ (List.range i).map (fun i => mergeV (aggs.getD i z30) (a.getD (n + i) zV) (b.getD (n + i) zV))).length < 3518437208883 := by
      rw [List.length_append, List.length_take, List.length_map, List.length_range]; omega
    generalize a.take n ++ (List.range i).map (fun i => mergeV (aggs.getD i z30) (a.getD (n + i) zV) (b.getD (n + i) zV)) = out at *
    generalize a.getD (n + i) zV = v at *
    generalize b.getD (n + i) zV = w at *
    generalize aggs.getD i z30 = g at *
    obtain ⟨c, hc⟩ : ∃ c, cmpV (toV w) (toV v) = c := ⟨_, rfl⟩
    have hcv : hayloftref02_Compare.f w.f0 w.f1 w.f2 w.f3 v.f0 v.f1 v.f2 v.f3 = some c := by rw [← hc]; rfl
    have hl0 : ∀ k, haylofttop_summed.l0 (k + 1) a b (n : Int) out aggs (aggs.length : Int) (i : Int) = if v.f0 = 0 then (if out.length < 3518437208883 then haylofttop_summed.l0 k a b (n : Int) (out ++ [w]) aggs (aggs.length : Int) ((i + 1 : Nat) : Int) else none) else if w.f0 = 0 then (if out.length < 3518437208883 then haylofttop_summed.l0 k a b (n : Int) (out ++ [v]) aggs (aggs.length : Int) ((i + 1 : Nat) : Int) else none) else
        haylofttop_summed.j1 k a b (n : Int) out aggs (aggs.length : Int) (i : Int) (decide (g.f0 = 0 ∨ g.f0 = 1)) g.f0 g.f1 v.f0 v.f1 v.f2 v.f3 w.f0 w.f1 w.f2 w.f3 := by
      intro k
      simp only [haylofttop_summed.l0, hw2, hra, hrb, hrg, hw]
      rw [if_pos (by omega), if_pos (by omega), if_pos (by omega), if_pos (by omega), if_pos (by omega), if_pos (by omega)]
      by_cases h0 : v.f0 = 0
      · rw [if_pos h0, if_pos h0]
      · rw [if_neg h0, if_neg h0]
        by_cases h1 : w.f0 = 0
        · rw [if_pos h1, if_pos h1]
        · rw [if_neg h1, if_neg h1]
          by_cases h2 : g.f0 = 0
          · rw [if_pos h2, decide_eq_true (.inl h2)]
          · rw [if_neg h2]
            have hd : decide (g.f0 = 0 ∨ g.f0 = 1) = (g.f0 == 1) := by by_cases h : g.f0 = 1 <;> simp [h, h2]
            rw [hd]
    unfold mergeV at hih
    by_cases h0 : v.f0 = 0
    · rw [if_pos h0] at hih
      refine Ev.step (fun k => ?_) hih
      rw [hl0, if_pos h0, if_pos hol]
    · rw [if_neg h0] at hih
      by_cases h1 : w.f0 = 0
      · rw [if_pos h1] at hih
        refine Ev.step (fun k => ?_) hih
        rw [hl0, if_neg h0, if_pos h1, if_pos hol]
      · rw [if_neg h1] at hih
        refine Ev.step (fun k => by rw [hl0, if_neg h0, if_neg h1]) ?_
        by_cases h2 : g.f0 = 0 ∨ g.f0 = 1
        · rw [if_pos h2] at hih
          refine Ev.step (fun k => ?_) hih
          simp only [haylofttop_summed.j1, hw]
          rw [decide_eq_true h2, if_pos rfl, if_pos hol]
        · rw [if_neg h2] at hih
          rw [hc] at hih
          refine Ev.step (f := fun k => haylofttop_summed.j2 k a b (n : Int) out aggs (aggs.length : Int) (i : Int) (decide (g.f0 = 2 ∧ c < 0)) g.f0 g.f1 v.f0 v.f1 v.f2 v.f3 w.f0 w.f1 w.f2 w.f3) (fun k => ?_) ?_
          · simp only [haylofttop_summed.j1, hcv, Option.bind_some]
            rw [decide_eq_false h2, if_neg (by simp)]
            by_cases h3 : g.f0 = 2
            · rw [if_pos h3]; congr 1; simp [h3]
            · rw [if_neg h3]; congr 1; simp [h3]
          · by_cases h3 : g.f0 = 2 ∧ c < 0
            · rw [if_pos h3] at hih
              refine Ev.step (fun k => ?_) hih
              simp only [haylofttop_summed.j2, hw]
              rw [decide_eq_true h3, if_pos rfl, if_pos hol]
            · rw [if_neg h3] at hih
              by_cases h4 : g.f0 = 3 ∧ 0 < c
              · rw [if_pos h4] at hih
                refine Ev.step (fun k => ?_) hih
                simp only [haylofttop_summed.j2, hw, hcv, Option.bind_some]
                rw [decide_eq_false h3, if_neg (by simp), if_pos h4.1, if_pos (by omega), if_pos hol]
              · rw [if_neg h4] at hih
                refine Ev.step (fun k => ?_) hih
                simp only [haylofttop_summed.j2, hw, hcv, Option.bind_some]
                rw [decide_eq_false h3, if_neg (by simp)]
                by_cases h5 : g.f0 = 3
                · rw [if_pos h5, if_neg (fun h => h4 ⟨h5, by omega⟩), if_pos hol]
                · rw [if_neg h5, if_pos hol]
theorem summed_f (a b : Row) (n : Nat) (aggs : List Ag) (ha : a.length = n + aggs.length) (hb : b.length = n + aggs.length) (hm : n + aggs.length < 3518437208883) : ∃ k, haylofttop_summed.f k a b (n : Int) aggs = some (summedL n aggs a b) := by
  obtain ⟨k, hk⟩ := (summed_loop a b n aggs ha hb hm aggs.length 0 (by omega)).rounds
  refine ⟨k, ?_⟩
  have hcp : hayloftref02_Copy.f (a.take ((n : Int)).toNat) = some (a.take n) := by
    simp only [hayloftref02_Copy.f, Option.bind_some, List.nil_append, List.length_nil, Nat.zero_add, Int.toNat_natCast]
    rw [if_pos (by rw [List.length_take]; omega)]
  unfold haylofttop_summed.f
  rw [if_pos (by omega), if_pos (by omega), hcp]
  simpa using hk
theorem merged_snoc (n : Nat) (aggs : List Ag) (b : List Row) (o r : Row) : merged n aggs (b ++ [o]) r = if sameK n (merged n aggs b r) o then summedL n aggs (merged n aggs b r) o else merged n aggs b r := by
  unfold merged; rw [List.foldl_append]; rfl
theorem merged_len (n : Nat) (aggs : List Ag) : ∀ (b : List Row) (r : Row), r.length = n + aggs.length → (merged n aggs b r).length = n + aggs.length
  | [], r, h => h
  | o :: b, r, h => by
    unfold merged
    rw [List.foldl_cons]
    refine merged_len n aggs b _ ?_
    split
    · exact summedL_len (by omega)
    · exact h
theorem kRows_atS {w : World} {A : Option Addr} {xs : List Row} (h : kRows.C w A xs.length xs) (i : Nat) (hi : i < xs.length) : ∃ ad Ax cx, A = some ad ∧ w.cell? (ad.add i) = some (.slice Ax (xs.getD i []).length cx) ∧ (xs.getD i []).length ≤ cx ∧ kS.C w Ax (xs.getD i []).length (xs.getD i []) := by
  obtain ⟨ad, cs, e, _, ⟨Ad, cp, rfl, hle, hC⟩, hcs⟩ := Kd.C_get h [] i (by omega) (by omega)
  rw [Int.toNat_natCast] at hle hC hcs
  have hsz : kRows.sz = 1 := rfl
  have hc0 := hcs 0 _ rfl
  rw [hsz, Nat.mul_one, Nat.add_zero] at hc0
  exact ⟨ad, Ad, cp, e, hc0, hle, hC⟩
theorem heapS4 : Kd.Heap kS := Kd.heap_iso _ (Kd.heap_pair (Kd.heap_int _) (Kd.heap_pair Kd.heap_bool (Kd.heap_pair (Kd.heap_int _) Kd.heap_string)))
/-- SameRow of two rows' keys. -/
theorem same_take (Ax : Option Addr) (cx : Nat) (x : Row) (Ay : Option Addr) (cy : Nat) (y : Row) (n : Nat) (w : World) (hx : kS.C w Ax x.length x) (hy : kS.C w Ay y.length y) (hnx : n ≤ x.length) (hny : n ≤ y.length) (hcx : x.length ≤ cx) (hcy : y.length ≤ cy) :
    Calls Tryd.prog 8 #[.slice Ax n cx, .slice Ay n cy] w fun e w' => e = .returned (.bool (sameK n x y)) ∧ Below w.heap.size w w' := by
  have h1 := Kd.C_take (m := n) hx hnx
  have h2 := Kd.C_take (m := n) hy hny
  have l1 : (x.take n).length = n := by rw [List.length_take]; omega
  have l2 : (y.take n).length = n := by rw [List.length_take]; omega
  obtain ⟨k, hk⟩ := (same_row (x.take n) (y.take n) (by have := hx.2.1; omega)).rounds
  have := hayloftref02_SameRow.calls k Ax cx (x.take n) Ay cy (y.take n) _ w h1 (by omega) h2 (by omega) hk
  rw [l1, l2] at this
  refine this.mono ?_
  rintro e w' ⟨rfl, hd⟩
  exact ⟨rfl, by first | exact hd.below | exact hd⟩
set_option maxHeartbeats 8000000 in
theorem together_any (A0 : Option Addr) (c0 : Nat) (a : List Row) (A1 : Option Addr) (c1 : Nat) (b : List Row) (n : Nat) (A3 : Option Addr) (c3 : Nat) (aggs : List Ag) (w : World)
    (H0 : kRows.C w A0 a.length a) (C0 : a.length ≤ c0) (H1 : kRows.C w A1 b.length b) (C1 : b.length ≤ c1) (H3 : kA.C w A3 aggs.length aggs) (C3 : aggs.length ≤ c3)
    (ha : ∀ r ∈ a, r.length = n + aggs.length) (hb : ∀ r ∈ b, r.length = n + aggs.length) (hn : n + aggs.length ≤ 1048576) (hal : a.length ≤ 1048576) (hbl : b.length ≤ 1048576) :
    Calls Tryd.prog 7 #[.slice A0 a.length c0, .slice A1 b.length c1, .int .i64 n, .slice A3 aggs.length c3] w fun e w' => ∃ (O : Option Addr) (c : Nat), e = .returned (.slice O (togL n aggs a b).length c) ∧ (togL n aggs a b).length ≤ c ∧ kRows.C w' O (togL n aggs a b).length (togL n aggs a b) ∧ Below w.heap.size w w' := by
  have hm0 := H0.2.1
  have hm1 := H1.2.1
  have HAL := Lib.hid (And.intro ha hb)
  clear ha hb
  go_enter Tryd.func7, Tryd.ntmps7
  go_wp2_with fail
  go_loopw [9, 21] (fun ov iv wr => ∃ (i : Nat), iv = .int .i64 (i : Int) ∧ i ≤ a.length ∧ Kd.N kRows tRow wr w.heap.size (fun _ => True) ov ((a.take i).map (merged n aggs b)) ∧ Below w.heap.size w wr) (fun _ iv _ => a.length - (intOf iv).toNat)
  case atStart => exact ⟨0, rfl, Nat.zero_le _, Kd.N_nil _ _ _ _ _, Below.refl _ _⟩
  case round =>
    obtain ⟨i, rfl, hi, hN, hB⟩ := hrel
    obtain ⟨WR, rfl⟩ : ∃ WR, WR = wr := ⟨_, rfl⟩
    by_cases hlt : i < a.length
    · have hltz : (i : Int) < (a.length : Int) := by omega
      obtain ⟨ad, Ar, cr, rfl, hrc0, hrle, hrC⟩ := kRows_atS H0 i hlt
      have hrc := pw_cell_below hB hrc0
      have hzB := hB.size
      have hrlen := HAL.out.1 _ (getD_mem [] hlt)
      have hts := take_snoc' ([] : Row) a i hlt
      have hPl : ((a.take i).map (merged n aggs b)).length ≤ 1048576 := by rw [List.length_map, List.length_take]; omega
      generalize a.getD i [] = r at *
      have hnx : (a.take (i + 1)).map (merged n aggs b) = (a.take i).map (merged n aggs b) ++ [merged n aggs b r] := by rw [← hts]; simp
      have HNX := Lib.hid (And.intro hnx hrlen)
      generalize (a.take i).map (merged n aggs b) = P at *
      clear hnx hts hrlen
      go_wp2_with fail
      go_loopw [11, 27] (fun rv jv V => ∃ (j : Nat) (Ax : Option Addr) (cx : Nat), jv = .int .i64 (j : Int) ∧ j ≤ b.length ∧ rv = .slice Ax (merged n aggs (b.take j) r).length cx ∧ (merged n aggs (b.take j) r).length ≤ cx ∧ Kd.F kS V (fun k => k < w.heap.size ∨ WR.heap.size ≤ k) Ax (merged n aggs (b.take j) r).length (merged n aggs (b.take j) r) ∧ Below WR.heap.size WR V) (fun _ jv _ => b.length - (intOf jv).toNat)
      case atStart =>
        exact ⟨0, Ar, cr, rfl, Nat.zero_le _, rfl, hrle, Kd.F_mono (Kd.F_below (Kd.C_F heapS4 hrC) hB) (fun k hk => .inl hk), Below.refl _ _⟩
      case round =>
        obtain ⟨j, Ax, cx, rfl, hj, rfl, hle, hF, hBj⟩ := hrel
        have hbw : Below w.heap.size w wr := hB.trans (hBj.mono hB.size)
        have hzj := hBj.size
        have hcl := merged_len n aggs (b.take j) r HNX.out.2
        by_cases hjl : j < b.length
        · have hjz : (j : Int) < (b.length : Int) := by omega
          obtain ⟨bd, Ay, cy, rfl, hyc0, hyle, hyC0⟩ := kRows_atS H1 j hjl
          have hyc := pw_cell_below hbw hyc0
          have hyC := Kd.C_below hyC0 hbw
          have hol := HAL.out.2 _ (getD_mem [] hjl)
          have hts := take_snoc' ([] : Row) b j hjl
          generalize b.getD j [] = o at *
          have hms := merged_snoc n aggs (b.take j) o r
          rw [hts] at hms
          generalize merged n aggs (b.take j) r = cur at *
          obtain ⟨kq, hkq⟩ := summed_f cur o n aggs hcl hol (by omega)
          have hnc : n ≤ cur.length := by omega
          have hno : n ≤ o.length := by omega
          have hcx : n ≤ cx := by omega
          have hcy : n ≤ cy := by omega
          have hsl := summedL_len (n := n) (aggs := aggs) (b := o) hnc
          have HMS := Lib.hid (And.intro hms (And.intro hcl (And.intro hol hsl)))
          clear hms hcl hol hts hsl
          have hst := fun (V : World) (hV : Below wr.heap.size wr V) => same_take Ax cx cur Ay cy o n V (Kd.F_now (Kd.F_below hF hV)) (Kd.C_below hyC hV) hnc hno hle hyle
          go_wp2_with fail
          refine (wpIn_wide (n := 0)).1 ?_
          refine wpIn_region_R (l := 0) 99 (S := fun V => True) (by kernel_rfl) trivial (fun hS0 => ?_)
          refine wpAnyR_take (i := 0) (oi := ⟨some 31, _, _, _, _, _⟩) (v := ?_) (by kernel_rfl) (by kernel_rfl) rfl (by kernel_rfl) (by kernel_rfl) (by kernel_rfl) (fun _ _ _ h => h) (Or.inl ⟨by rfl, ?_⟩) (by assumption) ?_
          rotate_left
          · intro w hSw; (try dsimp only at hSw); (try go_split_ands); go_simp; (try (with_reducible rfl))
          (try simp only [Act.put, List.setIfInBounds_toArray, List.set_cons_zero, List.set_cons_succ])
          refine wpAnyR_take (i := 1) (oi := ⟨some 32, _, _, _, _, _⟩) (v := ?_) (by kernel_rfl) (by kernel_rfl) rfl (by kernel_rfl) (by kernel_rfl) (by kernel_rfl) (fun _ _ _ h => h) (Or.inl ⟨by rfl, ?_⟩) (by assumption) ?_
          rotate_left
          · intro w hSw; (try dsimp only at hSw); (try go_split_ands); go_simp; (try (with_reducible rfl))
          (try simp only [Act.put, List.setIfInBounds_toArray, List.set_cons_zero, List.set_cons_succ])
          refine wpAnyR_take (i := 2) (oi := ⟨some 33, _, _, _, _, _⟩) (v := ?_) (by kernel_rfl) (by kernel_rfl) rfl (by kernel_rfl) (by kernel_rfl) (by kernel_rfl) (fun _ _ _ h => h) (Or.inl ⟨by rfl, ?_⟩) (by assumption) ?_
          rotate_left
          · intro w hSw; (try dsimp only at hSw); (try go_split_ands); go_simp; (try (with_reducible rfl))
          (try simp only [Act.put, List.setIfInBounds_toArray, List.set_cons_zero, List.set_cons_succ])
          refine wpAnyR_take (i := 3) (oi := ⟨some 34, _, _, _, _, _⟩) (v := ?_) (by kernel_rfl) (by kernel_rfl) rfl (by kernel_rfl) (by kernel_rfl) (by kernel_rfl) (fun _ _ _ h => h) (Or.inl ⟨by rfl, ?_⟩) (by assumption) ?_
          rotate_left
          · intro w hSw; (try dsimp only at hSw); (try go_split_ands); go_simp; (try (with_reducible rfl))
          (try simp only [Act.put, List.setIfInBounds_toArray, List.set_cons_zero, List.set_cons_succ])
          refine wpAnyR_take (i := 4) (oi := ⟨some 35, _, _, _, _, _⟩) (v := ?_) (by kernel_rfl) (by kernel_rfl) rfl (by kernel_rfl) (by kernel_rfl) (by kernel_rfl) (fun _ _ _ h => h) (Or.inl ⟨by rfl, ?_⟩) (by assumption) ?_
          rotate_left
          · intro w hSw; (try dsimp only at hSw); (try go_split_ands); go_simp; (try (with_reducible rfl))
          (try simp only [Act.put, List.setIfInBounds_toArray, List.set_cons_zero, List.set_cons_succ])
          refine wpAnyR_take (i := 5) (oi := ⟨some 36, _, _, _, _, _⟩) (v := ?_) (by kernel_rfl) (by kernel_rfl) rfl (by kernel_rfl) (by kernel_rfl) (by kernel_rfl) (fun _ _ _ h => h) (Or.inl ⟨by rfl, ?_⟩) (by assumption) ?_
          rotate_left
          · intro w hSw; (try dsimp only at hSw); (try go_split_ands); go_simp; (try (with_reducible rfl))
          (try simp only [Act.put, List.setIfInBounds_toArray, List.set_cons_zero, List.set_cons_succ])
          refine wpAnyR_one (i := 6) (o := ⟨some 37, _, _, _, _, _⟩) (by kernel_rfl) (by kernel_rfl) rfl (fun K hK => ?_)
          go_simp
          refine (hst wr.drew (below_drew (Below.refl _ _))).mono ?_
          rintro e w5 ⟨rfl, hb5⟩
          have hb5' : Below wr.heap.size wr w5 := (below_drew (Below.refl _ wr)).trans hb5
          (try dsimp only)
          refine hK.out _ _ (.inr trivial) ?_
          clear hK K
          (try simp only [Act.put, List.setIfInBounds_toArray, List.set_cons_zero, List.set_cons_succ])
          refine wpAnyR_done (by kernel_rfl) ?_ _
          have hB5 : Below WR.heap.size WR w5 := hBj.trans (hb5'.mono hBj.size)
          have hF5 := Kd.F_below hF hb5'
          clear hst
          cases hs : sameK n cur o with
          | true =>
            go_wp2_with fail
            refine (haylofttop_summed.calls kq Ax cx cur Ay cy o (n : Int) A3 c3 aggs (summedL n aggs cur o) w5 (Kd.F_now hF5) hle (Kd.C_below hyC hb5') hyle (Kd.C_below H3 (hbw.trans (hb5'.mono hbw.size))) C3 hkq).mono ?_
            rintro e w6 ⟨v6, rfl, hR6, hb6⟩
            obtain ⟨A6, c6, rfl⟩ := Kd.R_slice hR6
            have hle6 := (Kd.R_reads' hR6).2.1
            have hF6 := Kd.R_F (Kd.R_bound hR6)
            have hz5 := hB5.size
            go_wp2_with fail
            go_roundw
            case rel =>
              refine ⟨j + 1, A6, c6, by go_num, by omega, by rw [HMS.out.1, if_pos hs], by rw [HMS.out.1, if_pos hs]; exact hle6, ?_, hB5.trans (hb6.mono hB5.size)⟩
              rw [HMS.out.1, if_pos hs]
              exact Kd.F_mono hF6 (fun k hk => .inr (by have := hk.2.1; omega))
            case measure => simp [intOf]; omega
          | false =>
            go_wp2_with fail
            go_roundw
            case rel =>
              refine ⟨j + 1, Ax, cx, by go_num, by omega, by rw [HMS.out.1, if_neg (by simp [hs])], by rw [HMS.out.1, if_neg (by simp [hs])]; exact hle, ?_, hB5⟩
              rw [HMS.out.1, if_neg (by simp [hs])]
              exact hF5
            case measure => simp [intOf]; omega
        · obtain rfl : j = b.length := by omega
          rw [List.take_length] at hle hF ⊢
          generalize merged n aggs b r = cur at *
          have hNr := Kd.N_below hN hBj
          have hFK : Kd.FK kRows wr (fun k => k < w.heap.size ∨ WR.heap.size ≤ k) cur [.slice Ax cur.length cx] := Kd.FK_slice_mk hle hF
          have hzw := hbw.size
          clear hcl
          go_wp2_with (at_builtin; refine Kd.N_append kRows (w0 := w) w.heap.size rfl (.tmp 44) (.tmp 46) 22 31 _ 24 rfl Tryd.underlying22 infoRow rfl (by decide) (by decide) u9 P cur [.slice Ax cur.length cx] (fun _ => True) (fun k => k < w.heap.size ∨ WR.heap.size ≤ k) rfl rfl hFK (fun k hk => ⟨trivial, fun e => by have h1 := Kd.N_base hN k e.symm; have h2 := Kd.N_lt hN k e.symm; omega⟩) (fun _ _ => trivial) hNr hbw hzw (by omega) ?_; intro v1 w7 hN7 hB7 hg7 hat7; clear hg7 hat7)
          go_roundw
          case rel => exact ⟨i + 1, by go_num, by omega, by rw [HNX.out.1]; exact hN7, hB7⟩
          case measure => simp [intOf]; omega
    · obtain rfl : i = a.length := by omega
      rw [List.take_length] at hN
      obtain ⟨ML, hML⟩ : ∃ ML, a.map (merged n aggs b) = ML := ⟨_, rfl⟩
      have htl : togL n aggs a b = ML ++ b.filter (fun o => !(a.any (fun r => sameK n r o))) := by rw [← hML]; rfl
      have hMl : ML.length ≤ 1048576 := by rw [← hML, List.length_map]; exact hal
      rw [hML] at hN
      have HTL := Lib.hid htl
      clear htl hML
      obtain ⟨WQ, rfl⟩ : ∃ WQ, WQ = WR := ⟨_, rfl⟩
      go_wp2_with fail
      go_loopw [9, 51] (fun ov jv wr => ∃ (j : Nat), jv = .int .i64 (j : Int) ∧ j ≤ b.length ∧ Kd.N kRows tRow wr w.heap.size (fun _ => True) ov (ML ++ (b.take j).filter (fun o => !(a.any (fun r => sameK n r o)))) ∧ Below w.heap.size w wr) (fun _ jv _ => b.length - (intOf jv).toNat)
      case atStart => exact ⟨0, rfl, Nat.zero_le _, by simpa using hN, hB⟩
      case round =>
        obtain ⟨j, rfl, hj, hNj, hBj⟩ := hrel
        obtain ⟨WR, rfl⟩ : ∃ WR, WR = wr := ⟨_, rfl⟩
        by_cases hlt : j < b.length
        · have hltz : (j : Int) < (b.length : Int) := by omega
          obtain ⟨bd, Ay, cy, rfl, hyc0, hyle, hyC0⟩ := kRows_atS H1 j hlt
          have hyc := pw_cell_below hBj hyc0
          have hyC := Kd.C_below hyC0 hBj
          have hol := HAL.out.2 _ (getD_mem [] hlt)
          have hts := take_snoc' ([] : Row) b j hlt
          generalize b.getD j [] = o at *
          have hfs := filter_snoc (fun o => !(a.any (fun r => sameK n r o))) (b.take j) o
          rw [hts] at hfs
          have hFl : ((b.take j).filter (fun o => !(a.any (fun r => sameK n r o)))).length ≤ 1048576 := Nat.le_trans (List.length_filter_le _ _) (by rw [List.length_take]; omega)
          generalize (b.take j).filter (fun o => !(a.any (fun r => sameK n r o))) = FL at *
          have hno : n ≤ o.length := by omega
          have hcy : n ≤ cy := by omega
          have HFS := Lib.hid (And.intro hfs hol)
          clear hfs hol hts
          go_wp2_with fail
          go_loopw [16, 57] (fun fv kv V => ∃ (k : Nat) (fb : Bool), kv = .int .i64 (k : Int) ∧ k ≤ a.length ∧ fv = .bool fb ∧ fb = (a.take k).any (fun r => sameK n r o) ∧ Below WR.heap.size WR V) (fun _ kv _ => a.length - (intOf kv).toNat)
          case atStart => exact ⟨0, false, rfl, Nat.zero_le _, rfl, by simp, Below.refl _ _⟩
          case round =>
            obtain ⟨k, fb, rfl, hk, rfl, hfb, hBk⟩ := hrel
            have hbw : Below w.heap.size w wr := hBj.trans (hBk.mono hBj.size)
            by_cases hkl : k < a.length
            · have hkz : (k : Int) < (a.length : Int) := by omega
              obtain ⟨ad, Ar, cr, rfl, hrc0, hrle, hrC0⟩ := kRows_atS H0 k hkl
              have hrc := pw_cell_below hbw hrc0
              have hrC := Kd.C_below hrC0 hbw
              have hrl := HAL.out.1 _ (getD_mem [] hkl)
              have htk := take_snoc' ([] : Row) a k hkl
              generalize a.getD k [] = r at *
              have hany : (a.take (k + 1)).any (fun r => sameK n r o) = (fb || sameK n r o) := by rw [← htk, List.any_append, ← hfb]; simp
              have hnr : n ≤ r.length := by omega
              have hcr : n ≤ cr := by omega
              have HANY := Lib.hid (And.intro hany (And.intro hrl hfb))
              clear hany hrl htk hfb
              have hst := fun (V : World) (hV : Below wr.heap.size wr V) => same_take Ar cr r Ay cy o n V (Kd.C_below hrC hV) (Kd.C_below (Kd.C_below hyC hBk) hV) hnr hno hrle hyle
              cases fb with
              | true =>
                go_wp2_with fail
                refine (wpIn_wide (n := 0)).1 ?_
                refine wpIn_region_R (l := 0) 99 (S := fun V => True) (by kernel_rfl) trivial (fun hS0 => ?_)
                refine wpAnyR_take (i := 0) (oi := ⟨some 61, _, _, _, _, _⟩) (v := ?_) (by kernel_rfl) (by kernel_rfl) rfl (by kernel_rfl) (by kernel_rfl) (by kernel_rfl) (fun _ _ _ h => h) (Or.inl ⟨by rfl, ?_⟩) (by assumption) ?_
                rotate_left
                · intro w hSw; (try dsimp only at hSw); (try go_split_ands); go_simp; (try (with_reducible rfl))
                (try simp only [Act.put, List.setIfInBounds_toArray, List.set_cons_zero, List.set_cons_succ])
                refine wpAnyR_take (i := 1) (oi := ⟨some 62, _, _, _, _, _⟩) (v := ?_) (by kernel_rfl) (by kernel_rfl) rfl (by kernel_rfl) (by kernel_rfl) (by kernel_rfl) (fun _ _ _ h => h) (Or.inl ⟨by rfl, ?_⟩) (by assumption) ?_
                rotate_left
                · intro w hSw; (try dsimp only at hSw); (try go_split_ands); go_simp; (try (with_reducible rfl))
                (try simp only [Act.put, List.setIfInBounds_toArray, List.set_cons_zero, List.set_cons_succ])
                refine wpAnyR_take (i := 2) (oi := ⟨some 63, _, _, _, _, _⟩) (v := undef) (by kernel_rfl) (by kernel_rfl) rfl (by kernel_rfl) (by kernel_rfl) (by kernel_rfl) (fun _ _ _ h => h) (Or.inr ⟨by rfl, rfl⟩) (by assumption) ?_
                (try simp only [Act.put, List.setIfInBounds_toArray, List.set_cons_zero, List.set_cons_succ])
                refine wpAnyR_take (i := 3) (oi := ⟨some 64, _, _, _, _, _⟩) (v := undef) (by kernel_rfl) (by kernel_rfl) rfl (by kernel_rfl) (by kernel_rfl) (by kernel_rfl) (fun _ _ _ h => h) (Or.inr ⟨by rfl, rfl⟩) (by assumption) ?_
                (try simp only [Act.put, List.setIfInBounds_toArray, List.set_cons_zero, List.set_cons_succ])
                refine wpAnyR_take (i := 4) (oi := ⟨some 65, _, _, _, _, _⟩) (v := undef) (by kernel_rfl) (by kernel_rfl) rfl (by kernel_rfl) (by kernel_rfl) (by kernel_rfl) (fun _ _ _ h => h) (Or.inr ⟨by rfl, rfl⟩) (by assumption) ?_
                (try simp only [Act.put, List.setIfInBounds_toArray, List.set_cons_zero, List.set_cons_succ])
                refine wpAnyR_take (i := 5) (oi := ⟨some 66, _, _, _, _, _⟩) (v := undef) (by kernel_rfl) (by kernel_rfl) rfl (by kernel_rfl) (by kernel_rfl) (by kernel_rfl) (fun _ _ _ h => h) (Or.inr ⟨by rfl, rfl⟩) (by assumption) ?_
                (try simp only [Act.put, List.setIfInBounds_toArray, List.set_cons_zero, List.set_cons_succ])
                refine wpAnyR_take (i := 6) (oi := ⟨some 67, _, _, _, _, _⟩) (v := undef) (by kernel_rfl) (by kernel_rfl) rfl (by kernel_rfl) (by kernel_rfl) (by kernel_rfl) (fun _ _ _ h => h) (Or.inr ⟨by rfl, rfl⟩) (by assumption) ?_
                (try simp only [Act.put, List.setIfInBounds_toArray, List.set_cons_zero, List.set_cons_succ])
                refine wpAnyR_take (i := 7) (oi := ⟨some 68, _, _, _, _, _⟩) (v := undef) (by kernel_rfl) (by kernel_rfl) rfl (by kernel_rfl) (by kernel_rfl) (by kernel_rfl) (fun _ _ _ h => h) (Or.inr ⟨by rfl, rfl⟩) (by assumption) ?_
                (try simp only [Act.put, List.setIfInBounds_toArray, List.set_cons_zero, List.set_cons_succ])
                refine wpAnyR_take (i := 8) (oi := ⟨some 69, _, _, _, _, _⟩) (v := undef) (by kernel_rfl) (by kernel_rfl) rfl (by kernel_rfl) (by kernel_rfl) (by kernel_rfl) (fun _ _ _ h => h) (Or.inr ⟨by rfl, rfl⟩) (by assumption) ?_
                (try simp only [Act.put, List.setIfInBounds_toArray, List.set_cons_zero, List.set_cons_succ])
                refine wpAnyR_take (i := 9) (oi := ⟨some 70, _, _, _, _, _⟩) (v := ?_) (by kernel_rfl) (by kernel_rfl) rfl (by kernel_rfl) (by kernel_rfl) (by kernel_rfl) (fun _ _ _ h => h) (Or.inl ⟨by rfl, ?_⟩) (by assumption) ?_
                rotate_left
                · intro w hSw; (try dsimp only at hSw); (try go_split_ands); go_simp; (try (with_reducible rfl))
                (try simp only [Act.put, List.setIfInBounds_toArray, List.set_cons_zero, List.set_cons_succ])
                refine wpAnyR_take (i := 10) (oi := ⟨some 16, _, _, _, _, _⟩) (v := ?_) (by kernel_rfl) (by kernel_rfl) rfl (by kernel_rfl) (by kernel_rfl) (by kernel_rfl) (fun _ _ _ h => h) (Or.inl ⟨by rfl, ?_⟩) (by assumption) ?_
                rotate_left
                · intro w hSw; (try dsimp only at hSw); (try go_split_ands); go_simp; (try (with_reducible rfl))
                (try simp only [Act.put, List.setIfInBounds_toArray, List.set_cons_zero, List.set_cons_succ])
                refine wpAnyR_done (by kernel_rfl) ?_ _
                go_wp2_with fail
                go_roundw
                case rel => exact ⟨k + 1, true, by go_num, by omega, rfl, by rw [HANY.out.1]; rfl, below_drew hBk⟩
                case measure => simp [intOf]; omega
              | false =>
                go_wp2_with fail
                refine (wpIn_wide (n := 0)).1 ?_
                refine wpIn_region_R (l := 0) 99 (S := fun V => True) (by kernel_rfl) trivial (fun hS0 => ?_)
                refine wpAnyR_take (i := 0) (oi := ⟨some 61, _, _, _, _, _⟩) (v := ?_) (by kernel_rfl) (by kernel_rfl) rfl (by kernel_rfl) (by kernel_rfl) (by kernel_rfl) (fun _ _ _ h => h) (Or.inl ⟨by rfl, ?_⟩) (by assumption) ?_
                rotate_left
                · intro w hSw; (try dsimp only at hSw); (try go_split_ands); go_simp; (try (with_reducible rfl))
                (try simp only [Act.put, List.setIfInBounds_toArray, List.set_cons_zero, List.set_cons_succ])
                refine wpAnyR_take (i := 1) (oi := ⟨some 62, _, _, _, _, _⟩) (v := ?_) (by kernel_rfl) (by kernel_rfl) rfl (by kernel_rfl) (by kernel_rfl) (by kernel_rfl) (fun _ _ _ h => h) (Or.inl ⟨by rfl, ?_⟩) (by assumption) ?_
                rotate_left
                · intro w hSw; (try dsimp only at hSw); (try go_split_ands); go_simp; (try (with_reducible rfl))
                (try simp only [Act.put, List.setIfInBounds_toArray, List.set_cons_zero, List.set_cons_succ])
                refine wpAnyR_take (i := 2) (oi := ⟨some 63, _, _, _, _, _⟩) (v := ?_) (by kernel_rfl) (by kernel_rfl) rfl (by kernel_rfl) (by kernel_rfl) (by kernel_rfl) (fun _ _ _ h => h) (Or.inl ⟨by rfl, ?_⟩) (by assumption) ?_
                rotate_left
                · intro w hSw; (try dsimp only at hSw); (try go_split_ands); go_simp; (try (with_reducible rfl))
                (try simp only [Act.put, List.setIfInBounds_toArray, List.set_cons_zero, List.set_cons_succ])
                refine wpAnyR_take (i := 3) (oi := ⟨some 64, _, _, _, _, _⟩) (v := ?_) (by kernel_rfl) (by kernel_rfl) rfl (by kernel_rfl) (by kernel_rfl) (by kernel_rfl) (fun _ _ _ h => h) (Or.inl ⟨by rfl, ?_⟩) (by assumption) ?_
                rotate_left
                · intro w hSw; (try dsimp only at hSw); (try go_split_ands); go_simp; (try (with_reducible rfl))
                (try simp only [Act.put, List.setIfInBounds_toArray, List.set_cons_zero, List.set_cons_succ])
                refine wpAnyR_take (i := 4) (oi := ⟨some 65, _, _, _, _, _⟩) (v := ?_) (by kernel_rfl) (by kernel_rfl) rfl (by kernel_rfl) (by kernel_rfl) (by kernel_rfl) (fun _ _ _ h => h) (Or.inl ⟨by rfl, ?_⟩) (by assumption) ?_
                rotate_left
                · intro w hSw; (try dsimp only at hSw); (try go_split_ands); go_simp; (try (with_reducible rfl))
                (try simp only [Act.put, List.setIfInBounds_toArray, List.set_cons_zero, List.set_cons_succ])
                refine wpAnyR_take (i := 5) (oi := ⟨some 66, _, _, _, _, _⟩) (v := ?_) (by kernel_rfl) (by kernel_rfl) rfl (by kernel_rfl) (by kernel_rfl) (by kernel_rfl) (fun _ _ _ h => h) (Or.inl ⟨by rfl, ?_⟩) (by assumption) ?_
                rotate_left
                · intro w hSw; (try dsimp only at hSw); (try go_split_ands); go_simp; (try (with_reducible rfl))
                (try simp only [Act.put, List.setIfInBounds_toArray, List.set_cons_zero, List.set_cons_succ])
                refine wpAnyR_take (i := 6) (oi := ⟨some 67, _, _, _, _, _⟩) (v := ?_) (by kernel_rfl) (by kernel_rfl) rfl (by kernel_rfl) (by kernel_rfl) (by kernel_rfl) (fun _ _ _ h => h) (Or.inl ⟨by rfl, ?_⟩) (by assumption) ?_
                rotate_left
                · intro w hSw; (try dsimp only at hSw); (try go_split_ands); go_simp; (try (with_reducible rfl))
                (try simp only [Act.put, List.setIfInBounds_toArray, List.set_cons_zero, List.set_cons_succ])
                refine wpAnyR_take (i := 7) (oi := ⟨some 68, _, _, _, _, _⟩) (v := ?_) (by kernel_rfl) (by kernel_rfl) rfl (by kernel_rfl) (by kernel_rfl) (by kernel_rfl) (fun _ _ _ h => h) (Or.inl ⟨by rfl, ?_⟩) (by assumption) ?_
                rotate_left
                · intro w hSw; (try dsimp only at hSw); (try go_split_ands); go_simp; (try (with_reducible rfl))
                (try simp only [Act.put, List.setIfInBounds_toArray, List.set_cons_zero, List.set_cons_succ])
                refine wpAnyR_one (i := 8) (o := ⟨some 69, _, _, _, _, _⟩) (by kernel_rfl) (by kernel_rfl) rfl (fun K hK => ?_)
                go_simp
                refine (hst wr.drew (below_drew (Below.refl _ _))).mono ?_
                rintro e w5 ⟨rfl, hb5⟩
                have hb5' : Below wr.heap.size wr w5 := (below_drew (Below.refl _ wr)).trans hb5
                (try dsimp only)
                refine hK.out _ _ (.inr trivial) ?_
                clear hK K
                (try simp only [Act.put, List.setIfInBounds_toArray, List.set_cons_zero, List.set_cons_succ])
                refine wpAnyR_take (i := 9) (oi := ⟨some 70, _, _, _, _, _⟩) (v := ?_) (by kernel_rfl) (by kernel_rfl) rfl (by kernel_rfl) (by kernel_rfl) (by kernel_rfl) (fun _ _ _ h => h) (Or.inl ⟨by rfl, ?_⟩) (by assumption) ?_
                rotate_left
                · intro w hSw; (try dsimp only at hSw); (try go_split_ands); go_simp; (try (with_reducible rfl))
                (try simp only [Act.put, List.setIfInBounds_toArray, List.set_cons_zero, List.set_cons_succ])
                refine wpAnyR_take (i := 10) (oi := ⟨some 16, _, _, _, _, _⟩) (v := ?_) (by kernel_rfl) (by kernel_rfl) rfl (by kernel_rfl) (by kernel_rfl) (by kernel_rfl) (fun _ _ _ h => h) (Or.inl ⟨by rfl, ?_⟩) (by assumption) ?_
                rotate_left
                · intro w hSw; (try dsimp only at hSw); (try go_split_ands); go_simp; (try (with_reducible rfl))
                (try simp only [Act.put, List.setIfInBounds_toArray, List.set_cons_zero, List.set_cons_succ])
                refine wpAnyR_done (by kernel_rfl) ?_ _
                go_wp2_with fail
                go_roundw
                case rel => exact ⟨k + 1, sameK n r o, by go_num, by omega, rfl, by rw [HANY.out.1]; rfl, hBk.trans (hb5'.mono hBk.size)⟩
                case measure => simp [intOf]; omega
            · obtain rfl : k = a.length := by omega
              rw [List.take_length] at hfb
              have hNk := Kd.N_below hNj hBk
              have hzw := hbw.size
              have hFK : Kd.FK kRows wr (fun k => k < w.heap.size) o [.slice Ay o.length cy] := Kd.FK_slice_mk hyle (Kd.F_below (Kd.C_F heapS4 hyC0) hbw)
              cases fb with
              | true =>
                have hfl : (b.take (j + 1)).filter (fun o => !(a.any (fun r => sameK n r o))) = FL := by rw [HFS.out.1, ← hfb, if_neg (by simp)]
                have HFL := Lib.hid hfl
                clear hfl hfb
                go_wp2_with fail
                go_roundw
                case rel => exact ⟨j + 1, by go_num, by omega, by rw [HFL.out]; exact hNk, hbw⟩
                case measure => simp [intOf]; omega
              | false =>
                have hfl : ML ++ (b.take (j + 1)).filter (fun o => !(a.any (fun r => sameK n r o))) = (ML ++ FL) ++ [o] := by rw [HFS.out.1, ← hfb, if_pos (by simp), List.append_assoc]
                have HFL := Lib.hid hfl
                have hPl : (ML ++ FL).length ≤ 2097152 := by rw [List.length_append]; omega
                clear hfl hfb
                generalize ML ++ FL = PL at *
                go_wp2_with (at_builtin; refine Kd.N_append kRows (w0 := w) w.heap.size rfl (.tmp 74) (.tmp 76) 22 31 _ 24 rfl Tryd.underlying22 infoRow rfl (by decide) (by decide) u9 PL o [.slice Ay o.length cy] (fun _ => True) (fun k => k < w.heap.size) rfl rfl hFK (fun k hk => ⟨trivial, fun e => by have h1 := Kd.N_base hNj k e.symm; omega⟩) (fun _ _ => trivial) hNk hbw hzw (by omega) ?_; intro v1 w7 hN7 hB7 hg7 hat7; clear hg7 hat7)
                go_roundw
                case rel => exact ⟨j + 1, by go_num, by omega, by rw [HFL.out]; exact hN7, hB7⟩
                case measure => simp [intOf]; omega
        · obtain rfl : j = b.length := by omega
          rw [List.take_length, ← HTL.out] at hNj
          obtain ⟨OA, oc, rfl⟩ := Kd.N_slice hNj
          obtain ⟨_, hole, hoC⟩ := Kd.N_reads' hNj
          go_wp2_with fail
          go_ret
          exact ⟨OA, oc, rfl, hole, hoC, hBj⟩
end Go.Proofs.YtgcmnomjdbofoaaDoor.QV
