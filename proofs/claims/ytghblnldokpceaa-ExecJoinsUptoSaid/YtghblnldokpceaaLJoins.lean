/- ExecJoins: the walk. -/
import Derived.Test.YtghblnldokpceaaAliveX
namespace Go.Proofs.Ytghblnldokpceaa.QV
open Go.RowKit Go.Proofs.YtghblnldokpceaaW.PrintWords Go.Proofs.Ytghblnldokpceaa.SeqW Go.Shelf Go.Proofs.Ytghblnldokpceaa.Op
set_option linter.unusedVariables false
set_option linter.unusedSimpArgs false

theorem btr {a b c : World} (h : Below a.heap.size a b) (k : Below b.heap.size b c) : Below a.heap.size a c := h.trans (k.mono h.size)
set_option maxRecDepth 100000 in
set_option maxHeartbeats 4000000 in
theorem walkJoins (A0 : Option Addr) (c0 : Nat) (x0 : List Row) (A1 : Option Addr) (c1 : Nat) (x1 : List Row) (lo ro : Int) (w : World) (H0 : kRows.C w A0 x0.length x0) (C0 : x0.length ≤ c0) (H1 : kRows.C w A1 x1.length x1) (C1 : x1.length ≤ c1)
    (hL : ∀ x ∈ x0, x.length ≤ 1048576) (hR : ∀ x ∈ x1, x.length ≤ 1048576) :
    Calls Try.prog 3 #[.slice A0 x0.length c0, .slice A1 x1.length c1, .agg #[.int .i64 lo, .int .i64 ro]] w fun e w' => e = .returned (.bool true) ∧ Below w.heap.size w w' := by
  by_cases h0 : x0.length > 1000
  · have d0 : decide ((1000 : Int) < (x0.length : Int)) = true := decide_eq_true (by omega)
    go_enter Try.func3, Try.ntmps3
    go_wp2_with fail
    refine (aliveX_any _).mono ?_
    rintro e w2 ⟨rfl, hb2⟩
    go_wp2_with fail
    go_ret
    exact ⟨rfl, (below_alloc (Below.refl _ _) _).trans (hb2.mono (by simp))⟩
  · have d0 : decide ((1000 : Int) < (x0.length : Int)) = false := decide_eq_false (by omega)
    by_cases h1 : x1.length > 1000
    · have d1 : decide ((1000 : Int) < (x1.length : Int)) = true := decide_eq_true (by omega)
      go_enter Try.func3, Try.ntmps3
      go_wp2_with fail
      refine (aliveX_any _).mono ?_
      rintro e w2 ⟨rfl, hb2⟩
      go_wp2_with fail
      go_ret
      exact ⟨rfl, (below_alloc (Below.refl _ _) _).trans (hb2.mono (by simp))⟩
    · have d1 : decide ((1000 : Int) < (x1.length : Int)) = false := decide_eq_false (by omega)
      obtain ⟨k0, hk0⟩ := copied_f x0 (by omega) (fun x hx => by have := hL x hx; omega)
      obtain ⟨k1, hk1⟩ := copied_f x1 (by omega) (fun x hx => by have := hR x hx; omega)
      obtain ⟨k2, hk2⟩ := refJoin_f x0 x1 lo ro hL hR (by omega) (by omega)
      obtain ⟨k3, hk3⟩ := same_self x0 (by omega) (fun x hx => by have := hL x hx; omega)
      obtain ⟨k4, hk4⟩ := same_self x1 (by omega) (fun x hx => by have := hR x hx; omega)
      have hjl : (joinL x0 x1 lo ro).length ≤ 1000 * 1000 := Nat.le_trans (joinL_len x0 x1 lo ro) (Nat.mul_le_mul (by omega) (by omega))
      have hjr := joinL_rows x0 x1 lo ro hL hR
      go_enter Try.func3, Try.ntmps3
      go_wp2_with fail
      have hb1 : Below w.heap.size w (w.alloc (.cells #[.int .i64 lo, .int .i64 ro] 23)) := below_alloc (Below.refl _ _) _
      have g5 := blk_new w (.cells #[.int .i64 lo, .int .i64 ro] 23)
      generalize w.alloc (.cells #[.int .i64 lo, .int .i64 ro] 23) = w1 at hb1 g5 ⊢
      refine (hayloftlaw15_copied.calls k0 A0 c0 x0 x0 w1 (Kd.C_below H0 hb1) C0 hk0).mono ?_
      rintro e w2 ⟨v2, rfl, hS2, hb2⟩
      obtain ⟨B2, n2, rfl, hle2, hC2⟩ := Kd.S_reads hS2
      have hB2 := hb1.trans (hb2.mono hb1.size)
      go_wp2_with fail
      refine (hayloftlaw15_copied.calls k1 A1 c1 x1 x1 w2 (Kd.C_below H1 hB2) C1 hk1).mono ?_
      rintro e w3 ⟨v3, rfl, hS3, hb3⟩
      obtain ⟨B3, n3, rfl, hle3, hC3⟩ := Kd.S_reads hS3
      have hB3 := hB2.trans (hb3.mono hB2.size)
      have hb13 : Below w1.heap.size w1 w3 := hb2.trans (hb3.mono hb2.size)
      go_wp2_with fail
      have S0 : ∀ V, Below w1.heap.size w1 V → V.cell? ⟨w.heap.size, 0, none⟩ = some (.int .i64 lo) ∧ V.cell? ⟨w.heap.size, 1, none⟩ = some (.int .i64 ro) := fun V hV => ⟨blk_cell (blk_below g5 hV) 0, blk_cell (blk_below g5 hV) 1⟩
      have hd : Below w1.heap.size w1 w3.drew := hb13.trans ((below_drew (Below.refl _ _)).mono hb13.size)
      refine (wpIn_wide (n := 0)).1 ?_
      refine wpIn_region_R (l := 0) 18 (S := fun V => V.cell? ⟨w.heap.size, 0, none⟩ = some (.int .i64 lo) ∧ V.cell? ⟨w.heap.size, 1, none⟩ = some (.int .i64 ro)) (by kernel_rfl) (S0 _ hd) (fun hS0 => ?_)
      refine wpAnyR_take (i := 0) (oi := ⟨some 23, _, _, _, _, _⟩) (v := ?_) (by kernel_rfl) (by kernel_rfl) rfl (by kernel_rfl) (by kernel_rfl) (by kernel_rfl) (fun _ _ _ h => h) (Or.inl ⟨by rfl, ?_⟩) (by assumption) ?_
      rotate_left
      · intro w hSw; (try dsimp only at hSw); (try go_split_ands); go_simp; (try (with_reducible rfl))
      (try simp only [Act.put, List.setIfInBounds_toArray, List.set_cons_zero, List.set_cons_succ])
      refine wpAnyR_take (i := 2) (oi := ⟨some 25, _, _, _, _, _⟩) (v := ?_) (by kernel_rfl) (by kernel_rfl) rfl (by kernel_rfl) (by kernel_rfl) (by kernel_rfl) (fun _ _ _ h => h) (Or.inl ⟨by rfl, ?_⟩) (by assumption) ?_
      rotate_left
      · intro w hSw; (try dsimp only at hSw); (try go_split_ands); go_simp; (try (with_reducible rfl))
      (try simp only [Act.put, List.setIfInBounds_toArray, List.set_cons_zero, List.set_cons_succ])
      refine wpAnyR_take (i := 4) (oi := ⟨some 27, _, _, _, _, _⟩) (v := ?_) (by kernel_rfl) (by kernel_rfl) rfl (by kernel_rfl) (by kernel_rfl) (by kernel_rfl) (fun _ _ _ h => h) (Or.inl ⟨by rfl, ?_⟩) (by assumption) ?_
      rotate_left
      · intro w hSw; (try dsimp only at hSw); (try go_split_ands); go_simp; (try (with_reducible rfl))
      (try simp only [Act.put, List.setIfInBounds_toArray, List.set_cons_zero, List.set_cons_succ])
      refine wpAnyR_take (i := 5) (oi := ⟨some 28, _, _, _, _, _⟩) (v := ?_) (by kernel_rfl) (by kernel_rfl) rfl (by kernel_rfl) (by kernel_rfl) (by kernel_rfl) (fun _ _ _ h => h) (Or.inl ⟨by rfl, ?_⟩) (by assumption) ?_
      rotate_left
      · intro w hSw; (try dsimp only at hSw); (try go_split_ands); go_simp; (try (with_reducible rfl))
      (try simp only [Act.put, List.setIfInBounds_toArray, List.set_cons_zero, List.set_cons_succ])
      refine wpAnyR_take (i := 6) (oi := ⟨some 29, _, _, _, _, _⟩) (v := ?_) (by kernel_rfl) (by kernel_rfl) rfl (by kernel_rfl) (by kernel_rfl) (by kernel_rfl) (fun _ _ _ h => h) (Or.inl ⟨by rfl, ?_⟩) (by assumption) ?_
      rotate_left
      · intro w hSw; (try dsimp only at hSw); (try go_split_ands); go_simp; (try (with_reducible rfl))
      (try simp only [Act.put, List.setIfInBounds_toArray, List.set_cons_zero, List.set_cons_succ])
      refine wpAnyR_take (i := 7) (oi := ⟨some 30, _, _, _, _, _⟩) (v := ?_) (by kernel_rfl) (by kernel_rfl) rfl (by kernel_rfl) (by kernel_rfl) (by kernel_rfl) (fun _ _ _ h => h) (Or.inl ⟨by rfl, ?_⟩) (by assumption) ?_
      rotate_left
      · intro w hSw; (try dsimp only at hSw); (try go_split_ands); go_simp; (try (with_reducible rfl))
      (try simp only [Act.put, List.setIfInBounds_toArray, List.set_cons_zero, List.set_cons_succ])
      refine wpAnyR_take (i := 9) (oi := ⟨some 32, _, _, _, _, _⟩) (v := ?_) (by kernel_rfl) (by kernel_rfl) rfl (by kernel_rfl) (by kernel_rfl) (by kernel_rfl) (fun _ _ _ h => h) (Or.inl ⟨by rfl, ?_⟩) (by assumption) ?_
      rotate_left
      · intro w hSw; (try dsimp only at hSw); (try go_split_ands); go_simp; (try (with_reducible rfl))
      (try simp only [Act.put, List.setIfInBounds_toArray, List.set_cons_zero, List.set_cons_succ])
      refine wpAnyR_take (i := 10) (oi := ⟨some 33, _, _, _, _, _⟩) (v := ?_) (by kernel_rfl) (by kernel_rfl) rfl (by kernel_rfl) (by kernel_rfl) (by kernel_rfl) (fun _ _ _ h => h) (Or.inl ⟨by rfl, ?_⟩) (by assumption) ?_
      rotate_left
      · intro w hSw; (try dsimp only at hSw); (try go_split_ands); go_simp; (try (with_reducible rfl))
      (try simp only [Act.put, List.setIfInBounds_toArray, List.set_cons_zero, List.set_cons_succ])
      refine wpAnyR_take (i := 11) (oi := ⟨some 34, _, _, _, _, _⟩) (v := ?_) (by kernel_rfl) (by kernel_rfl) rfl (by kernel_rfl) (by kernel_rfl) (by kernel_rfl) (fun _ _ _ h => h) (Or.inl ⟨by rfl, ?_⟩) (by assumption) ?_
      rotate_left
      · intro w hSw; (try dsimp only at hSw); (try go_split_ands); go_simp; (try (with_reducible rfl))
      (try simp only [Act.put, List.setIfInBounds_toArray, List.set_cons_zero, List.set_cons_succ])
      refine wpAnyR_take (i := 12) (oi := ⟨some 35, _, _, _, _, _⟩) (v := ?_) (by kernel_rfl) (by kernel_rfl) rfl (by kernel_rfl) (by kernel_rfl) (by kernel_rfl) (fun _ _ _ h => h) (Or.inl ⟨by rfl, ?_⟩) (by assumption) ?_
      rotate_left
      · intro w hSw; (try dsimp only at hSw); (try go_split_ands); go_simp; (try (with_reducible rfl))
      (try simp only [Act.put, List.setIfInBounds_toArray, List.set_cons_zero, List.set_cons_succ])
      refine wpAnyR_take (i := 13) (oi := ⟨some 36, _, _, _, _, _⟩) (v := ?_) (by kernel_rfl) (by kernel_rfl) rfl (by kernel_rfl) (by kernel_rfl) (by kernel_rfl) (fun _ _ _ h => h) (Or.inl ⟨by rfl, ?_⟩) (by assumption) ?_
      rotate_left
      · intro w hSw; (try dsimp only at hSw); (try go_split_ands); go_simp; (try (with_reducible rfl))
      (try simp only [Act.put, List.setIfInBounds_toArray, List.set_cons_zero, List.set_cons_succ])
      refine wpAnyR_take (i := 14) (oi := ⟨some 37, _, _, _, _, _⟩) (v := ?_) (by kernel_rfl) (by kernel_rfl) rfl (by kernel_rfl) (by kernel_rfl) (by kernel_rfl) (fun _ _ _ h => h) (Or.inl ⟨by rfl, ?_⟩) (by assumption) ?_
      rotate_left
      · intro w hSw; (try dsimp only at hSw); (try go_split_ands); go_simp; (try (with_reducible rfl))
      (try simp only [Act.put, List.setIfInBounds_toArray, List.set_cons_zero, List.set_cons_succ])
      refine wpAnyR_one (i := 1) (o := ⟨some 24, _, _, _, _, _⟩) (by kernel_rfl) (by kernel_rfl) rfl (fun K hK => ?_)
      go_simp
      refine (values_is B2 x0 n2 _ (Kd.C_drew (Kd.C_below hC2 hb3))).mono ?_
      rintro e w4 ⟨v4, rfl, hs4, hb4⟩
      obtain ⟨f4, l4, rfl⟩ := hs4.form
      have hb14 := hd.trans (hb4.mono hd.size)
      (try dsimp only)
      refine hK.out _ _ (.inr (S0 _ hb14)) ?_
      clear hK K
      (try simp only [Act.put, List.setIfInBounds_toArray, List.set_cons_zero, List.set_cons_succ])
      refine wpAnyR_one (i := 3) (o := ⟨some 26, _, _, _, _, _⟩) (by kernel_rfl) (by kernel_rfl) rfl (fun K hK => ?_)
      go_simp
      refine (values_is B3 x1 n3 _ (Kd.C_below (Kd.C_drew hC3) hb4)).mono ?_
      rintro e w5 ⟨v5, rfl, hs5, hb5⟩
      obtain ⟨f5, l5, rfl⟩ := hs5.form
      have hb15 := hb14.trans (hb5.mono hb14.size)
      (try dsimp only)
      refine hK.out _ _ (.inr (S0 _ hb15)) ?_
      clear hK K
      (try simp only [Act.put, List.setIfInBounds_toArray, List.set_cons_zero, List.set_cons_succ])
      refine wpAnyR_one (i := 8) (o := ⟨some 31, _, _, _, _, _⟩) (by kernel_rfl) (by kernel_rfl) rfl (fun K hK => ?_)
      go_simp
      refine (join_is x0 x1 lo ro _ _ w5 (hs4.later hb5) hs5 hR hL (by omega)).mono ?_
      rintro e w6 ⟨v6, rfl, hs6, hb6⟩
      obtain ⟨f6, l6, rfl⟩ := hs6.seq.form
      have hb16 := hb15.trans (hb6.mono hb15.size)
      (try dsimp only)
      refine hK.out _ _ (.inr (S0 _ hb16)) ?_
      clear hK K
      (try simp only [Act.put, List.setIfInBounds_toArray, List.set_cons_zero, List.set_cons_succ])
      refine wpAnyR_one (i := 15) (o := ⟨some 38, _, _, _, _, _⟩) (by kernel_rfl) (by kernel_rfl) rfl (fun K hK => ?_)
      go_simp
      have hw16 := hb1.trans (hb16.mono hb1.size)
      refine (hayloftref15_Join.calls k2 A0 c0 x0 A1 c1 x1 lo ro _ w6 (Kd.C_below H0 hw16) C0 (Kd.C_below H1 hw16) C1 hk2).mono ?_
      rintro e w7 ⟨v7, rfl, hS7, hb7⟩
      obtain ⟨B7, n7, rfl, hle7, hC7⟩ := Kd.S_reads hS7
      have hb17 := hb16.trans (hb7.mono hb16.size)
      (try dsimp only)
      refine hK.out _ _ (.inr (S0 _ hb17)) ?_
      clear hK K
      (try simp only [Act.put, List.setIfInBounds_toArray, List.set_cons_zero, List.set_cons_succ])
      refine wpAnyR_one (i := 16) (o := ⟨some 39, _, _, _, _, _⟩) (by kernel_rfl) (by kernel_rfl) rfl (fun K hK => ?_)
      go_simp
      refine (twice_any _ _ B7 n7 w6 w7 hs6 hb7 hC7 hle7 (fun x hx => by have := hjr x hx; omega) (by omega)).mono ?_
      rintro e w8 ⟨rfl, hb8⟩
      have hb18 := hb17.trans (hb8.mono hb17.size)
      (try dsimp only)
      refine hK.out _ _ (.inr (S0 _ hb18)) ?_
      clear hK K
      (try simp only [Act.put, List.setIfInBounds_toArray, List.set_cons_zero, List.set_cons_succ])
      have hS08 := S0 _ hb18
      refine wpAnyR_take (i := 17) (oi := ⟨some 9, _, _, _, _, _⟩) (v := ?_) (by kernel_rfl) (by kernel_rfl) rfl (by kernel_rfl) (by kernel_rfl) (by kernel_rfl) (fun _ _ _ h => h) (Or.inl ⟨by rfl, ?_⟩) (by assumption) ?_
      rotate_left
      · intro w hSw; (try dsimp only at hSw); (try go_split_ands); go_simp; (try (with_reducible rfl))
      (try simp only [Act.put, List.setIfInBounds_toArray, List.set_cons_zero, List.set_cons_succ])
      refine wpAnyR_done (by kernel_rfl) ?_ _
      go_wp2_with fail
      refine (aliveX_any _).mono ?_
      rintro e w9 ⟨rfl, hb9⟩
      have hb19 := hb18.trans (hb9.mono hb18.size)
      have hw19 := hb1.trans (hb19.mono hb1.size)
      go_wp2_with fail
      have hb39 : Below w3.heap.size w3 w9 := btr (btr (btr (btr (btr (btr (below_drew (Below.refl _ w3)) hb4) hb5) hb6) hb7) hb8) hb9
      refine (hayloftref02_SameAll.calls k3 B2 n2 x0 A0 c0 x0 true w9 (Kd.C_below hC2 (btr hb3 hb39)) hle2 (Kd.C_below H0 hw19) C0 hk3).mono ?_
      rintro e w10 ⟨rfl, hd10⟩
      go_wp2_with fail
      refine (hayloftref02_SameAll.calls k4 B3 n3 x1 A1 c1 x1 true w10 (Kd.C_below hC3 (btr hb39 hd10.below)) hle3 (Kd.C_below H1 (btr hw19 hd10.below)) C1 hk4).mono ?_
      rintro e w11 ⟨rfl, hd11⟩
      go_wp2_with fail
      go_ret
      exact ⟨rfl, btr (btr hw19 hd10.below) hd11.below⟩
end Go.Proofs.Ytghblnldokpceaa.QV
