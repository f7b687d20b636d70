/- expr.Check and the reference's. -/
import Derived.Test.YtchemmppcdfljaaDoorExprAll
import Derived.Test.YtchemmppcdfljaaDoorRight
import Derived.Deep.RegionHeld3
namespace Go.Proofs.YtchemmppcdfljaaDoor.Op
open Go.RowKit Go.Proofs.YtchemmppcdfljaaDoorW.PrintWords
set_option linter.unusedVariables false
set_option linter.unusedSimpArgs false

/-- api.Column -/
structure Cn where
  n : ByteArray
  k : Int
  u : Bool
def Cn.cells (x : Cn) : List Value := [.string x.n, .int .i64 x.k, .bool x.u]
def Cn.z : Cn := ⟨ByteArray.empty, 0, false⟩
def kCn : Kd Cn := Kd.iso (Kd.pair Kd.string (Kd.pair (Kd.int .i64) Kd.bool)) (fun x => (x.n, x.k, x.u))
theorem kCn_open {w : World} {x : Cn} {cs : List Value} (h : kCn.K w x cs) : cs = x.cells := by
  obtain ⟨_, _, rfl, rfl, ⟨_, _, rfl, rfl, rfl⟩⟩ := h
  rfl
def Cn.At (w : World) (p : Addr) (x : Cn) : Prop :=
  p.block < w.heap.size ∧ w.cell? p = some (.string x.n) ∧ w.cell? ⟨p.block, p.off + 1, none⟩ = some (.int .i64 x.k) ∧ w.cell? ⟨p.block, p.off + 2, none⟩ = some (.bool x.u)
theorem kCn_at {w : World} {A : Option Addr} {n : Nat} {xs : List Cn} (h : kCn.C w A n xs) (i : Nat) (hi : i < n) : ∃ ad, A = some ad ∧ Cn.At w (ad.add (i * 3)) (xs.getD i Cn.z) := by
  obtain ⟨ad, c, e, _, hK, hc0⟩ := Kd.C_get h Cn.z i (by omega) (by omega)
  have hc : ∀ j u, c[j]? = some u → w.cell? (ad.add (i * 3 + j)) = some u := hc0
  obtain rfl := kCn_open hK
  rw [show ((i : Int)).toNat = i from by omega] at hc
  exact ⟨ad, e, World.block_lt_of_cell? w _ (hc 0 _ rfl), hc 0 _ rfl, by rw [← add_field _ _ 1 (by omega)]; exact hc 1 _ rfl, by rw [← add_field _ _ 2 (by omega)]; exact hc 2 _ rfl⟩

/-- May a term be asked? -/
def okT (cs : List Cn) (t : T) : Bool :=
  decide (0 ≤ t.c ∧ t.c < cs.length) && (decide (0 ≤ t.o ∧ t.o ≤ 7) && (decide (6 ≤ t.o) || (rightV t.v && t.v.k == (cs.getD t.c.toNat Cn.z).k)))
def checkE (cs : List Cn) (l : List T) : Int := if 8 < l.length then 140 else if l.all (okT cs) then 0 else 140
theorem checkE_no {cs : List Cn} {l : List T} {k : Nat} (hk : k < l.length) (h : okT cs (l.getD k T.z) = false) : checkE cs l = 140 := by
  unfold checkE
  split
  · rfl
  · rw [if_neg]
    rw [Bool.not_eq_true, List.all_eq_false]
    refine ⟨l[k], List.getElem_mem hk, ?_⟩
    rw [List.getD_eq_getElem?_getD, List.getElem?_eq_getElem hk] at h
    simpa using h
theorem checkE_yes {cs : List Cn} {l : List T} (h8 : l.length ≤ 8) (h : ∀ j, j < l.length → okT cs (l.getD j T.z) = true) : checkE cs l = 0 := by
  unfold checkE
  rw [if_neg (by omega), if_pos]
  rw [List.all_eq_true]
  intro x hx
  obtain ⟨j, hj, rfl⟩ := List.getElem_of_mem hx
  have := h j hj
  rwa [List.getD_eq_getElem?_getD, List.getElem?_eq_getElem hj] at this
theorem checkE_8 {cs : List Cn} {l : List T} (h8 : 8 < l.length) : checkE cs l = 140 := by unfold checkE; rw [if_pos h8]

theorem keep_c6c {w W w1 : World} {g : Nat} {v0 v1 v2 v3 v4 v5 u : Value} {q : Addr} (hb : Below W.heap.size W w1) (h : (W.cell? ⟨g, 0, none⟩ = some v0 ∧ W.cell? ⟨g, 1, none⟩ = some v1 ∧ W.cell? ⟨g, 2, none⟩ = some v2 ∧ W.cell? ⟨g, 3, none⟩ = some v3 ∧ W.cell? ⟨g, 4, none⟩ = some v4 ∧ W.cell? ⟨g, 5, none⟩ = some v5 ∧ Below w.heap.size w W) ∧ W.cell? q = some u) :
    (w1.cell? ⟨g, 0, none⟩ = some v0 ∧ w1.cell? ⟨g, 1, none⟩ = some v1 ∧ w1.cell? ⟨g, 2, none⟩ = some v2 ∧ w1.cell? ⟨g, 3, none⟩ = some v3 ∧ w1.cell? ⟨g, 4, none⟩ = some v4 ∧ w1.cell? ⟨g, 5, none⟩ = some v5 ∧ Below w.heap.size w w1) ∧ w1.cell? q = some u := ⟨keep_c6 hb h.1, pw_cell_below hb h.2⟩

set_option maxHeartbeats 2000000 in
theorem check_any (Ac : Option Addr) (cs : List Cn) (cc : Nat) (Al : Option Addr) (l : List T) (cl : Nat) (w : World) (hcs : kCn.C w Ac cs.length cs) (hcc : cs.length ≤ cc) (hl : kT.C w Al l.length l) (hcl : l.length ≤ cl) :
    Calls Tryd.prog 18 #[.slice Ac cs.length cc, .slice Al l.length cl] w fun e w' => e = .returned (.int .i64 (checkE cs l)) ∧ Below w.heap.size w w' := by
  have hml := hl.2.1
  have hm := hcs.2.1
  by_cases h8 : 8 < l.length
  · go_enter Tryd.func18, Tryd.ntmps18
    go_wp2
    go_ret
    exact ⟨ret_int (checkE_8 h8), Below.refl _ _⟩
  have h8' : l.length ≤ 8 := by omega
  go_enter Tryd.func18, Tryd.ntmps18
  go_wp2
  go_loopw [13] (fun i wr => ∃ k : Nat, i = .int .i64 k ∧ k ≤ l.length ∧ (∀ j, j < k → okT cs (l.getD j T.z) = true) ∧ Below w.heap.size w wr) (fun i _ => l.length - (intOf i).toNat)
  case atStart => exact ⟨0, rfl, Nat.zero_le _, fun _ h => by omega, Below.refl _ _⟩
  case round =>
    obtain ⟨k, rfl, hk, hall, hB⟩ := hrel
    have HA := Lib.hid hall
    clear hall
    by_cases hlt : k < l.length
    case neg =>
      obtain rfl : k = l.length := by omega
      go_wp2
      go_ret
      exact ⟨ret_int (checkE_yes h8' HA.out), hB⟩
    obtain ⟨ad, rfl, hv⟩ := kT_at (Kd.C_below hl hB) k hlt
    generalize hx : l.getD k T.z = x at hv
    have HX := Lib.hid hx
    clear hx
    have hno : okT cs x = false → checkE cs l = 140 := fun h => checkE_no hlt (by rw [HX.out]; exact h)
    have hyes : okT cs x = true → ∀ j, j < k + 1 → okT cs (l.getD j T.z) = true := fun h j hj => by
      rcases Nat.lt_or_ge j k with hjk | hjk
      · exact HA.out j hjk
      · obtain rfl : j = k := by omega
        rw [HX.out]; exact h
    have HN := Lib.hid hno
    have HY := Lib.hid hyes
    clear hno hyes HA HX
    obtain ⟨tc, o, ⟨k', b, i, s⟩⟩ := x
    obtain ⟨hblt, hv0, hv1, hv2, hv3, hv4, hv5⟩ := hv
    simp only at hv0 hv1 hv2 hv3 hv4 hv5
    by_cases hc : 0 ≤ tc ∧ tc < cs.length
    case neg =>
      by_cases hneg : tc < 0
      all_goals
        go_wp2
        go_ret
        exact ⟨ret_int (HN.out (by simp [okT, hc])), (below_alloc hB _)⟩
    by_cases ho : 0 ≤ o ∧ o ≤ 7
    case neg =>
      obtain ⟨hc0, hc1⟩ := id hc
      by_cases hneg : o < 0
      all_goals
        go_wp2
        go_ret
        exact ⟨ret_int (HN.out (by simp [okT, ho])), (below_alloc hB _)⟩
    obtain ⟨hc0, hc1⟩ := id hc
    obtain ⟨ho0, ho1⟩ := id ho
    by_cases h6 : 6 ≤ o
    case pos =>
      have ho6 : o = 6 ∨ o = 7 := by omega
      rcases ho6 with rfl | rfl
      all_goals
        go_wp2_with fail
        go_quiet (fail)
        go_wp2
        go_roundw
        case rel => exact ⟨k + 1, by go_num, by omega, HY.out (by simp [okT, hc]), by first | exact below_alloc hB _ | exact pw_below_drewN (below_alloc hB _) _⟩
        case measure => simp [intOf]; omega
    obtain ⟨adc, rfl, hq⟩ := kCn_at (Kd.C_below hcs hB) tc.toNat (by omega)
    have hok : okT cs ⟨tc, o, ⟨k', b, i, s⟩⟩ = (rightV ⟨k', b, i, s⟩ && k' == (cs.getD tc.toNat Cn.z).k) := by simp [okT, hc, ho, h6]
    generalize cs.getD tc.toNat Cn.z = y at hq hok
    obtain ⟨cn, ck, cu⟩ := y
    obtain ⟨hclt, hq0, hq1, hq2⟩ := hq
    simp only at hq0 hq1 hq2 hok
    have HO := Lib.hid hok
    clear hok
    have hn6 : (o != 6) = true := bne_iff_ne.2 (by omega)
    have hn7 : (o != 7) = true := bne_iff_ne.2 (by omega)
    have hbx := below_alloc (Below.refl wr.heap.size wr) (.cells #[.int .i64 tc, .int .i64 o, .int .i64 k', .bool b, .int .i64 i, .string s] 27)
    have hN := blk_new wr (.cells #[.int .i64 tc, .int .i64 o, .int .i64 k', .bool b, .int .i64 i, .string s] 27)
    have r1 := pw_cell_below hbx hq1
    have hBW := below_alloc hB (.cells #[.int .i64 tc, .int .i64 o, .int .i64 k', .bool b, .int .i64 i, .string s] 27)
    cases hr : rightV ⟨k', b, i, s⟩
    · have HR := Lib.hid hr
      clear hr
      go_wp2_with fail
      generalize wr.alloc (.cells #[.int .i64 tc, .int .i64 o, .int .i64 k', .bool b, .int .i64 i, .string s] 27) = W at hbx hN r1 hBW ⊢
      refine wp_region_noPanic ?_
      refine wp_region_held_drew (S := fun W' => W'.cell? ⟨wr.heap.size, 0, none⟩ = some (.int .i64 tc) ∧ W'.cell? ⟨wr.heap.size, 1, none⟩ = some (.int .i64 o) ∧ W'.cell? ⟨wr.heap.size, 2, none⟩ = some (.int .i64 k') ∧ W'.cell? ⟨wr.heap.size, 3, none⟩ = some (.bool b) ∧ W'.cell? ⟨wr.heap.size, 4, none⟩ = some (.int .i64 i) ∧ W'.cell? ⟨wr.heap.size, 5, none⟩ = some (.string s) ∧ Below w.heap.size w W') (by kernel_rfl) (start_c6 hBW hN) (fun hHeld => ?_)
      refine wpAnyH_take (i := 0) (oi := ⟨some 45, _, _, _, _, _⟩) (v := ?_) rfl (by kernel_rfl) (by kernel_rfl) (by kernel_rfl) (fun _ _ _ h => h) (Or.inl ⟨by rfl, ?_⟩) (by assumption) ?_
      rotate_left
      · intro w hSw; (try dsimp only at hSw); go_simp; (try (with_reducible rfl))
      simp only [Act.put, List.setIfInBounds_toArray, List.set_cons_zero, List.set_cons_succ]
      refine wpAnyH_take (i := 1) (oi := ⟨some 46, _, _, _, _, _⟩) (v := ?_) rfl (by kernel_rfl) (by kernel_rfl) (by kernel_rfl) (fun _ _ _ h => h) (Or.inl ⟨by rfl, ?_⟩) (by assumption) ?_
      rotate_left
      · intro w hSw; (try dsimp only at hSw); go_simp; (try (with_reducible rfl))
      simp only [Act.put, List.setIfInBounds_toArray, List.set_cons_zero, List.set_cons_succ]
      refine wpAnyH_take (i := 2) (oi := ⟨some 47, _, _, _, _, _⟩) (v := ?_) rfl (by kernel_rfl) (by kernel_rfl) (by kernel_rfl) (fun _ _ _ h => h) (Or.inl ⟨by rfl, ?_⟩) (by assumption) ?_
      rotate_left
      · intro w hSw; (try dsimp only at hSw); go_simp; (try (with_reducible rfl))
      simp only [Act.put, List.setIfInBounds_toArray, List.set_cons_zero, List.set_cons_succ]
      refine wpAnyH_take (i := 3) (oi := ⟨some 48, _, _, _, _, _⟩) (v := ?_) rfl (by kernel_rfl) (by kernel_rfl) (by kernel_rfl) (fun _ _ _ h => h) (Or.inl ⟨by rfl, ?_⟩) (by assumption) ?_
      rotate_left
      · intro w hSw; (try dsimp only at hSw); go_simp; (try (with_reducible rfl))
      simp only [Act.put, List.setIfInBounds_toArray, List.set_cons_zero, List.set_cons_succ]
      refine wpAnyH_ready (rs := [4]) (by kernel_rfl) (by simp) ?_
      refine AllReadyH.cons (o := ⟨some 49, _, _, _, _, _⟩) rfl (fun K hK => ?_) AllReadyH.nil
      go_simp
      refine (right_any ⟨k', b, i, s⟩ _).mono ?_
      rintro e w1 ⟨rfl, hb⟩
      rw [HR.out]
      (try dsimp only)
      refine hK.out _ _ (keep_c6 hb (by assumption)) (fun hHeld1 => ?_)
      clear hK K
      (try simp only [Act.put, List.setIfInBounds_toArray, List.set_cons_zero, List.set_cons_succ])
      refine wpAnyH_take (i := 5) (oi := ⟨some 50, _, _, _, _, _⟩) (v := ?_) rfl (by kernel_rfl) (by kernel_rfl) (by kernel_rfl) (fun _ _ _ h => h) (Or.inl ⟨by rfl, ?_⟩) (by assumption) ?_
      rotate_left
      · intro w hSw; (try dsimp only at hSw); go_simp; (try (with_reducible rfl))
      simp only [Act.put, List.setIfInBounds_toArray, List.set_cons_zero, List.set_cons_succ]
      refine wpAnyH_take (i := 6) (oi := ⟨some 51, _, _, _, _, _⟩) (v := ?_) rfl (by kernel_rfl) (by kernel_rfl) (by kernel_rfl) (fun _ _ _ h => h) (Or.inl ⟨by rfl, ?_⟩) (by assumption) ?_
      rotate_left
      · intro w hSw; (try dsimp only at hSw); go_simp; (try (with_reducible rfl))
      simp only [Act.put, List.setIfInBounds_toArray, List.set_cons_zero, List.set_cons_succ]
      refine wpAnyH_take (i := 7) (oi := ⟨some 52, _, _, _, _, _⟩) (v := undef) rfl (by kernel_rfl) (by kernel_rfl) (by kernel_rfl) (fun _ _ _ h => h) (Or.inr ⟨by rfl, rfl⟩) (by assumption) ?_
      simp only [Act.put, List.setIfInBounds_toArray, List.set_cons_zero, List.set_cons_succ]
      refine wpAnyH_take (i := 8) (oi := ⟨some 53, _, _, _, _, _⟩) (v := undef) rfl (by kernel_rfl) (by kernel_rfl) (by kernel_rfl) (fun _ _ _ h => h) (Or.inr ⟨by rfl, rfl⟩) (by assumption) ?_
      simp only [Act.put, List.setIfInBounds_toArray, List.set_cons_zero, List.set_cons_succ]
      refine wpAnyH_take (i := 9) (oi := ⟨some 54, _, _, _, _, _⟩) (v := undef) rfl (by kernel_rfl) (by kernel_rfl) (by kernel_rfl) (fun _ _ _ h => h) (Or.inr ⟨by rfl, rfl⟩) (by assumption) ?_
      simp only [Act.put, List.setIfInBounds_toArray, List.set_cons_zero, List.set_cons_succ]
      refine wpAnyH_take (i := 10) (oi := ⟨some 55, _, _, _, _, _⟩) (v := undef) rfl (by kernel_rfl) (by kernel_rfl) (by kernel_rfl) (fun _ _ _ h => h) (Or.inr ⟨by rfl, rfl⟩) (by assumption) ?_
      simp only [Act.put, List.setIfInBounds_toArray, List.set_cons_zero, List.set_cons_succ]
      refine wpAnyH_take (i := 11) (oi := ⟨some 56, _, _, _, _, _⟩) (v := undef) rfl (by kernel_rfl) (by kernel_rfl) (by kernel_rfl) (fun _ _ _ h => h) (Or.inr ⟨by rfl, rfl⟩) (by assumption) ?_
      simp only [Act.put, List.setIfInBounds_toArray, List.set_cons_zero, List.set_cons_succ]
      refine wpAnyH_take (i := 12) (oi := ⟨some 57, _, _, _, _, _⟩) (v := undef) rfl (by kernel_rfl) (by kernel_rfl) (by kernel_rfl) (fun _ _ _ h => h) (Or.inr ⟨by rfl, rfl⟩) (by assumption) ?_
      simp only [Act.put, List.setIfInBounds_toArray, List.set_cons_zero, List.set_cons_succ]
      refine wpAnyH_take (i := 13) (oi := ⟨some 58, _, _, _, _, _⟩) (v := undef) rfl (by kernel_rfl) (by kernel_rfl) (by kernel_rfl) (fun _ _ _ h => h) (Or.inr ⟨by rfl, rfl⟩) (by assumption) ?_
      simp only [Act.put, List.setIfInBounds_toArray, List.set_cons_zero, List.set_cons_succ]
      refine wpAnyH_take (i := 14) (oi := ⟨some 59, _, _, _, _, _⟩) (v := undef) rfl (by kernel_rfl) (by kernel_rfl) (by kernel_rfl) (fun _ _ _ h => h) (Or.inr ⟨by rfl, rfl⟩) (by assumption) ?_
      simp only [Act.put, List.setIfInBounds_toArray, List.set_cons_zero, List.set_cons_succ]
      refine wpAnyH_take (i := 15) (oi := ⟨some 60, _, _, _, _, _⟩) (v := undef) rfl (by kernel_rfl) (by kernel_rfl) (by kernel_rfl) (fun _ _ _ h => h) (Or.inr ⟨by rfl, rfl⟩) (by assumption) ?_
      simp only [Act.put, List.setIfInBounds_toArray, List.set_cons_zero, List.set_cons_succ]
      refine wpAnyH_take (i := 16) (oi := ⟨some 61, _, _, _, _, _⟩) (v := undef) rfl (by kernel_rfl) (by kernel_rfl) (by kernel_rfl) (fun _ _ _ h => h) (Or.inr ⟨by rfl, rfl⟩) (by assumption) ?_
      simp only [Act.put, List.setIfInBounds_toArray, List.set_cons_zero, List.set_cons_succ]
      refine wpAnyH_take (i := 17) (oi := ⟨some 62, _, _, _, _, _⟩) (v := ?_) rfl (by kernel_rfl) (by kernel_rfl) (by kernel_rfl) (fun _ _ _ h => h) (Or.inl ⟨by rfl, ?_⟩) (by assumption) ?_
      rotate_left
      · intro w hSw; (try dsimp only at hSw); go_simp; (try (with_reducible rfl))
      simp only [Act.put, List.setIfInBounds_toArray, List.set_cons_zero, List.set_cons_succ]
      refine wpAnyH_take (i := 18) (oi := ⟨some 63, _, _, _, _, _⟩) (v := ?_) rfl (by kernel_rfl) (by kernel_rfl) (by kernel_rfl) (fun _ _ _ h => h) (Or.inl ⟨by rfl, ?_⟩) (by assumption) ?_
      rotate_left
      · intro w hSw; (try dsimp only at hSw); go_simp; (try (with_reducible rfl))
      simp only [Act.put, List.setIfInBounds_toArray, List.set_cons_zero, List.set_cons_succ]
      refine wpAnyH_done (by kernel_rfl) ?_ _
      refine NoPanic.normal ?_
      go_wp2
      go_ret
      exact ⟨ret_int (HN.out (by rw [HO.out, HR.out]; rfl)), below_c6 (by assumption)⟩
    · have HR := Lib.hid hr
      clear hr
      by_cases hkk : k' = ck
      · subst hkk
        go_wp2_with fail
        generalize wr.alloc (.cells #[.int .i64 tc, .int .i64 o, .int .i64 k', .bool b, .int .i64 i, .string s] 27) = W at hbx hN r1 hBW ⊢
        go_region_held3 (fun W' => (W'.cell? ⟨wr.heap.size, 0, none⟩ = some (.int .i64 tc) ∧ W'.cell? ⟨wr.heap.size, 1, none⟩ = some (.int .i64 o) ∧ W'.cell? ⟨wr.heap.size, 2, none⟩ = some (.int .i64 k') ∧ W'.cell? ⟨wr.heap.size, 3, none⟩ = some (.bool b) ∧ W'.cell? ⟨wr.heap.size, 4, none⟩ = some (.int .i64 i) ∧ W'.cell? ⟨wr.heap.size, 5, none⟩ = some (.string s) ∧ Below w.heap.size w W') ∧ W'.cell? ⟨(adc.add (tc.toNat * 3)).block, (adc.add (tc.toNat * 3)).off + 1, none⟩ = some (.int .i64 k')) ((first | assumption | exact ⟨start_c6 hBW hN, r1⟩ | exact keep_c6c (by assumption) (by assumption))) (first | ((go_at_call 23; refine (right_any ⟨k', b, i, s⟩ _).mono ?_; rintro e w1 ⟨rfl, hb⟩; rw [HR.out])) | ((fail)))
        go_wp2
        go_roundw
        case rel => exact ⟨k + 1, by go_num, by omega, HY.out (by rw [HO.out, HR.out]; simp), by apply below_c6; exact And.left (by assumption)⟩
        case measure => simp [intOf]; omega
      · have hkb : (k' != ck) = true := bne_iff_ne.2 hkk
        go_wp2_with fail
        generalize wr.alloc (.cells #[.int .i64 tc, .int .i64 o, .int .i64 k', .bool b, .int .i64 i, .string s] 27) = W at hbx hN r1 hBW ⊢
        go_region_held3 (fun W' => (W'.cell? ⟨wr.heap.size, 0, none⟩ = some (.int .i64 tc) ∧ W'.cell? ⟨wr.heap.size, 1, none⟩ = some (.int .i64 o) ∧ W'.cell? ⟨wr.heap.size, 2, none⟩ = some (.int .i64 k') ∧ W'.cell? ⟨wr.heap.size, 3, none⟩ = some (.bool b) ∧ W'.cell? ⟨wr.heap.size, 4, none⟩ = some (.int .i64 i) ∧ W'.cell? ⟨wr.heap.size, 5, none⟩ = some (.string s) ∧ Below w.heap.size w W') ∧ W'.cell? ⟨(adc.add (tc.toNat * 3)).block, (adc.add (tc.toNat * 3)).off + 1, none⟩ = some (.int .i64 ck)) ((first | assumption | exact ⟨start_c6 hBW hN, r1⟩ | exact keep_c6c (by assumption) (by assumption))) (first | ((go_at_call 23; refine (right_any ⟨k', b, i, s⟩ _).mono ?_; rintro e w1 ⟨rfl, hb⟩; rw [HR.out])) | ((fail)))
        go_wp2
        go_ret
        exact ⟨ret_int (HN.out (by rw [HO.out, HR.out]; simpa using hkk)), by apply below_c6; exact And.left (by assumption)⟩

set_option maxHeartbeats 2000000 in
theorem ref_check (Ac : Option Addr) (cs : List Cn) (cc : Nat) (Al : Option Addr) (l : List T) (cl : Nat) (w : World) (hcs : kCn.C w Ac cs.length cs) (hcc : cs.length ≤ cc) (hl : kT.C w Al l.length l) (hcl : l.length ≤ cl) :
    Calls Tryd.prog 19 #[.slice Ac cs.length cc, .slice Al l.length cl] w fun e w' => e = .returned (.int .i64 (checkE cs l)) ∧ Below w.heap.size w w' := by
  have hml := hl.2.1
  have hm := hcs.2.1
  by_cases h8 : 8 < l.length
  · go_enter Tryd.func19, Tryd.ntmps19
    go_wp2
    go_ret
    exact ⟨ret_int (checkE_8 h8), Below.refl _ _⟩
  have h8' : l.length ≤ 8 := by omega
  go_enter Tryd.func19, Tryd.ntmps19
  go_wp2
  go_loopw [5] (fun i wr => ∃ k : Nat, i = .int .i64 k ∧ k ≤ l.length ∧ (∀ j, j < k → okT cs (l.getD j T.z) = true) ∧ Below w.heap.size w wr) (fun i _ => l.length - (intOf i).toNat)
  case atStart => exact ⟨0, rfl, Nat.zero_le _, fun _ h => by omega, Below.refl _ _⟩
  case round =>
    obtain ⟨k, rfl, hk, hall, hB⟩ := hrel
    have HA := Lib.hid hall
    clear hall
    by_cases hlt : k < l.length
    case neg =>
      obtain rfl : k = l.length := by omega
      go_wp2
      go_ret
      exact ⟨ret_int (checkE_yes h8' HA.out), hB⟩
    obtain ⟨ad, rfl, hv⟩ := kT_at (Kd.C_below hl hB) k hlt
    generalize hx : l.getD k T.z = x at hv
    have HX := Lib.hid hx
    clear hx
    have hno : okT cs x = false → checkE cs l = 140 := fun h => checkE_no hlt (by rw [HX.out]; exact h)
    have hyes : okT cs x = true → ∀ j, j < k + 1 → okT cs (l.getD j T.z) = true := fun h j hj => by
      rcases Nat.lt_or_ge j k with hjk | hjk
      · exact HA.out j hjk
      · obtain rfl : j = k := by omega
        rw [HX.out]; exact h
    have HN := Lib.hid hno
    have HY := Lib.hid hyes
    clear hno hyes HA HX
    obtain ⟨tc, o, ⟨k', b, i, s⟩⟩ := x
    obtain ⟨hblt, hv0, hv1, hv2, hv3, hv4, hv5⟩ := hv
    simp only at hv0 hv1 hv2 hv3 hv4 hv5
    by_cases hc : 0 ≤ tc ∧ tc < cs.length
    case neg =>
      by_cases hneg : tc < 0
      all_goals
        go_wp2
        go_ret
        exact ⟨ret_int (HN.out (by simp [okT, hc])), (below_alloc hB _)⟩
    by_cases ho : 0 ≤ o ∧ o ≤ 7
    case neg =>
      obtain ⟨hc0, hc1⟩ := id hc
      by_cases hneg : o < 0
      all_goals
        go_wp2
        go_ret
        exact ⟨ret_int (HN.out (by simp [okT, ho])), (below_alloc hB _)⟩
    obtain ⟨hc0, hc1⟩ := id hc
    obtain ⟨ho0, ho1⟩ := id ho
    have hbx := below_alloc (Below.refl wr.heap.size wr) (.cells #[.int .i64 tc, .int .i64 o, .int .i64 k', .bool b, .int .i64 i, .string s] 27)
    have hN := blk_new wr (.cells #[.int .i64 tc, .int .i64 o, .int .i64 k', .bool b, .int .i64 i, .string s] 27)
    have hBW := below_alloc hB (.cells #[.int .i64 tc, .int .i64 o, .int .i64 k', .bool b, .int .i64 i, .string s] 27)
    obtain ⟨adc, rfl, hq⟩ := kCn_at (Kd.C_below hcs hB) tc.toNat (by omega)
    have hok : okT cs ⟨tc, o, ⟨k', b, i, s⟩⟩ = (decide (6 ≤ o) || (rightV ⟨k', b, i, s⟩ && k' == (cs.getD tc.toNat Cn.z).k)) := by simp [okT, hc, ho]
    generalize cs.getD tc.toNat Cn.z = y at hq hok
    obtain ⟨cn, ck, cu⟩ := y
    obtain ⟨hclt, hq0, hq1, hq2⟩ := hq
    simp only at hq0 hq1 hq2 hok
    have HO := Lib.hid hok
    clear hok
    have r1 := pw_cell_below hbx hq1
    go_wp2_with fail
    refine (ref_right ⟨k', b, i, s⟩ _).mono ?_
    rintro e w1 ⟨rfl, hb⟩
    have hN1 := blk_below hN hb
    have r2 := pw_cell_below hb r1
    have hz := hBW.trans (hb.mono hBW.size)
    clear hb hbx hN r1 hBW hq0 hq1 hq2 hv0 hv1 hv2 hv3 hv4 hv5
    have g0 : w1.cell? ⟨wr.heap.size, 0, none⟩ = some (.int .i64 tc) := (blk_cell hN1 0).trans rfl
    have g1 : w1.cell? ⟨wr.heap.size, 1, none⟩ = some (.int .i64 o) := (blk_cell hN1 1).trans rfl
    have g2 : w1.cell? ⟨wr.heap.size, 2, none⟩ = some (.int .i64 k') := (blk_cell hN1 2).trans rfl
    by_cases h6 : 6 ≤ o
    · have hd : decide (o < 6) = false := decide_eq_false (by omega)
      generalize rightV ⟨k', b, i, s⟩ = r at HO ⊢
      go_wp2_with fail
      go_quiet (fail)
      go_wp2
      go_roundw
      case rel => exact ⟨k + 1, by go_num, by omega, HY.out (by rw [HO.out]; simp [h6]), by first | exact hz | exact pw_below_drewN hz _⟩
      case measure => simp [intOf]; omega
    have h6' : o < 6 := by omega
    have hd : decide (o < 6) = true := decide_eq_true h6'
    cases hr : rightV ⟨k', b, i, s⟩
    · have HR := Lib.hid hr
      clear hr
      go_wp2_with fail
      go_quiet (fail)
      go_wp2
      go_ret
      exact ⟨ret_int (HN.out (by rw [HO.out, HR.out]; simp [h6])), by first | exact hz | exact pw_below_drewN hz _⟩
    · have HR := Lib.hid hr
      clear hr
      by_cases hkk : k' = ck
      · subst hkk
        go_wp2_with fail
        go_quiet (fail)
        go_wp2
        go_roundw
        case rel => exact ⟨k + 1, by go_num, by omega, HY.out (by rw [HO.out, HR.out]; simp), by first | exact hz | exact pw_below_drewN hz _⟩
        case measure => simp [intOf]; omega
      · have hkb : (k' != ck) = true := bne_iff_ne.2 hkk
        go_wp2_with fail
        go_quiet (fail)
        go_wp2
        go_ret
        exact ⟨ret_int (HN.out (by rw [HO.out, HR.out]; simpa [h6] using hkk)), by first | exact hz | exact pw_below_drewN hz _⟩
end Go.Proofs.YtchemmppcdfljaaDoor.Op
