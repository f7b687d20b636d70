/- ExprRanks: the walk. -/
import Derived.Test.YtchemmppcdfljaaDoorLContrary
namespace Go.Proofs.YtchemmppcdfljaaDoor.Op
open Go.RowKit Go.Proofs.YtchemmppcdfljaaDoorW.PrintWords
set_option linter.unusedVariables false
set_option linter.unusedSimpArgs false

/-- What stands between two values that are not null. -/
theorem ranks_plain (tc : Int) (lo hi : V) (row : List V) (h : 0 ≤ tc ∧ tc < row.length) (hlo : lo.k ≠ 0) (hhi : hi.k ≠ 0) (hlt : cmpV lo hi < 0) :
    (termB ⟨tc, 3, lo⟩ row = true → termB ⟨tc, 2, hi⟩ row = true) ∧ (termB ⟨tc, 5, hi⟩ row = true → termB ⟨tc, 4, lo⟩ row = true) ∧ (termB ⟨tc, 0, lo⟩ row = true → termB ⟨tc, 0, hi⟩ row = false) := by
  by_cases hk : (row.getD tc.toNat V.z).k = 0
  · rw [termB_ref ⟨tc, 3, lo⟩ row h _ rfl, termB_ref ⟨tc, 5, hi⟩ row h _ rfl, termB_ref ⟨tc, 0, lo⟩ row h _ rfl]
    simp only [hk, true_or, if_true, reduceCtorEq]
    simp
  · obtain ⟨l0, -, l2, l3, l4, l5, -⟩ := terms_at tc lo row h hk hlo _ rfl
    obtain ⟨m0, -, m2, m3, m4, m5, -⟩ := terms_at tc hi row h hk hhi _ rfl
    rw [l0, l3, l4, m0, m2, m5]
    generalize row.getD tc.toNat V.z = x at *
    have r1 := cmpV_range x lo
    have r2 := cmpV_range x hi
    have r3 := cmpV_range lo hi
    have s1 := cmpV_swap x lo
    have s2 := cmpV_swap x hi
    have s3 := cmpV_swap lo hi
    have t1 := cmpV_trans x lo hi
    have t2 := cmpV_trans lo hi x
    have t3 := cmpV_trans hi x lo
    have t4 := cmpV_trans hi lo x
    simp only [decide_eq_true_eq, beq_iff_eq, beq_eq_false_iff_ne, ne_eq]
    refine ⟨fun a => ?_, fun a => ?_, fun a b => ?_⟩ <;> omega

set_option maxHeartbeats 1000000 in
theorem rk_any (op : Int) (x : V) (g h : Nat) (tc : Int) (A : Option Addr) (row : List V) (c : Nat) (w : World) (hg : w.cell? ⟨g, 0, none⟩ = some (.int .i64 tc)) (hh : w.cell? ⟨h, 0, none⟩ = some (.slice A row.length c))
    (hr : kV.C w A row.length row) (hc : row.length ≤ c) (hT : Tab w) :
    Calls Tryd.prog 15 #[.int .i64 op, .agg #[.int .i64 x.k, .bool x.b, .int .i64 x.i, .string x.s], .pointer (some ⟨g, 0, none⟩), .pointer (some ⟨h, 0, none⟩)] w fun e w' => e = .returned (.bool (termB ⟨tc, op, x⟩ row)) ∧ Below w.heap.size w w' := by
  obtain ⟨k, b, i, s⟩ := x
  have hB := below_alloc (Below.refl w.heap.size w) (.cells #[.int .i64 k, .bool b, .int .i64 i, .string s] 25)
  have hg1 := pw_cell_below hB hg
  have hh1 := pw_cell_below hB hh
  go_enter Tryd.func15, Tryd.ntmps15
  go_wp2_with fail
  refine (term_any ⟨tc, op, ⟨k, b, i, s⟩⟩ A row c _ (Kd.C_below hr hB) hc (hT.below hB)).mono ?_
  rintro e w1 ⟨rfl, hb⟩
  go_wp2
  go_ret
  exact ⟨rfl, hB.trans (hb.mono hB.size)⟩

def RkAt (w : World) (n : Nat) (A : Option Addr) (m c : Nat) (tc : Int) (lo hi : V) : Prop :=
  w.cell? ⟨n, 0, none⟩ = some (.slice A m c) ∧ w.cell? ⟨n + 1 + 1, 0, none⟩ = some (.int .i64 tc) ∧ V.At w ⟨n + 1 + 1 + 1, 0, none⟩ lo ∧ V.At w ⟨n + 1 + 1 + 1 + 1, 0, none⟩ hi
theorem RkAt.below {w w1 : World} {n : Nat} {A : Option Addr} {m c : Nat} {tc : Int} {lo hi : V} (h : RkAt w n A m c tc lo hi) (hb : Below w.heap.size w w1) : RkAt w1 n A m c tc lo hi :=
  ⟨pw_cell_below hb h.1, pw_cell_below hb h.2.1, h.2.2.1.below hb, h.2.2.2.below hb⟩
theorem rk_start (w : World) (A : Option Addr) (m c : Nat) (tc k k' i i' : Int) (b b' : Bool) (s s' : ByteArray) (t0 t1 t2 t3 : TypeId) :
    RkAt (((((w.alloc (.cells #[.slice A m c] t0)).alloc (.cells #[.int .i64 k, .bool b, .int .i64 i, .string s, .int .i64 k', .bool b', .int .i64 i', .string s'] t1)).alloc (.cells #[.int .i64 tc] t2)).alloc (.cells #[.int .i64 k, .bool b, .int .i64 i, .string s] t3)).alloc (.cells #[.int .i64 k', .bool b', .int .i64 i', .string s'] t3)) w.heap.size A m c tc ⟨k, b, i, s⟩ ⟨k', b', i', s'⟩ := by
  have b0 := blk_alloc (blk_alloc (blk_alloc (blk_alloc (blk_new w (.cells #[.slice A m c] t0)) (.cells #[.int .i64 k, .bool b, .int .i64 i, .string s, .int .i64 k', .bool b', .int .i64 i', .string s'] t1)) (.cells #[.int .i64 tc] t2)) (.cells #[.int .i64 k, .bool b, .int .i64 i, .string s] t3)) (.cells #[.int .i64 k', .bool b', .int .i64 i', .string s'] t3)
  generalize hW1 : (w.alloc (.cells #[.slice A m c] t0)).alloc (.cells #[.int .i64 k, .bool b, .int .i64 i, .string s, .int .i64 k', .bool b', .int .i64 i', .string s'] t1) = W1 at *
  have s1 : W1.heap.size = w.heap.size + 1 + 1 := by rw [← hW1]; simp
  have b1 := blk_alloc (blk_alloc (blk_new W1 (.cells #[.int .i64 tc] t2)) (.cells #[.int .i64 k, .bool b, .int .i64 i, .string s] t3)) (.cells #[.int .i64 k', .bool b', .int .i64 i', .string s'] t3)
  have b2 := blk_alloc (blk_new (W1.alloc (.cells #[.int .i64 tc] t2)) (.cells #[.int .i64 k, .bool b, .int .i64 i, .string s] t3)) (.cells #[.int .i64 k', .bool b', .int .i64 i', .string s'] t3)
  have b3 := blk_new ((W1.alloc (.cells #[.int .i64 tc] t2)).alloc (.cells #[.int .i64 k, .bool b, .int .i64 i, .string s] t3)) (.cells #[.int .i64 k', .bool b', .int .i64 i', .string s'] t3)
  simp only [World.size_alloc, s1] at b1 b2 b3
  exact ⟨(blk_cell b0 0).trans rfl, (blk_cell b1 0).trans rfl, ⟨blk_lt b2, (blk_cell b2 0).trans rfl, (blk_cell b2 1).trans rfl, (blk_cell b2 2).trans rfl, (blk_cell b2 3).trans rfl⟩, ⟨blk_lt b3, (blk_cell b3 0).trans rfl, (blk_cell b3 1).trans rfl, (blk_cell b3 2).trans rfl, (blk_cell b3 3).trans rfl⟩⟩

set_option maxHeartbeats 4000000 in
theorem walkRanks (A : Option Addr) (row : List V) (c : Nat) (lo hi : V) (tc : Int) (w : World) (hr : kV.C w A row.length row) (hc : row.length ≤ c) (hT : Tab w) :
    Calls Tryd.prog 6 #[.slice A row.length c, .agg #[.int .i64 lo.k, .bool lo.b, .int .i64 lo.i, .string lo.s, .int .i64 hi.k, .bool hi.b, .int .i64 hi.i, .string hi.s], .int .i64 tc] w fun e w' => e = .returned (.bool true) ∧ Below w.heap.size w w' := by
  have hp := fun h hlo hhi hlt => ranks_plain tc lo hi row h hlo hhi hlt
  have ht := fun hlo hhi => (terms_at 0 hi [lo] ⟨by omega, by simp⟩ hlo hhi _ rfl).2.2.1
  rw [show ([lo].getD (0 : Int).toNat V.z) = lo from rfl] at ht
  obtain ⟨k, b, i, s⟩ := lo
  obtain ⟨k', b', i', s'⟩ := hi
  simp only at hp ht
  have hm := hr.2.1
  have hB0 := below_alloc (below_alloc (below_alloc (below_alloc (below_alloc (Below.refl w.heap.size w) (.cells #[.slice A row.length c] 23)) (.cells #[.int .i64 k, .bool b, .int .i64 i, .string s, .int .i64 k', .bool b', .int .i64 i', .string s'] 34)) (.cells #[.int .i64 tc] 3)) (.cells #[.int .i64 k, .bool b, .int .i64 i, .string s] 25)) (.cells #[.int .i64 k', .bool b', .int .i64 i', .string s'] 25)
  by_cases h : 0 ≤ tc ∧ tc < row.length
  case neg =>
    by_cases hneg : tc < 0
    all_goals
      go_enter Tryd.func6, Tryd.ntmps6
      go_wp2_with fail
      refine (alive_any _ (hT.below hB0)).mono ?_
      rintro e w1 ⟨rfl, hb⟩
      go_wp2
      go_ret
      exact ⟨rfl, hB0.trans (hb.mono hB0.size)⟩
  by_cases hk : k = 0
  · subst hk
    obtain ⟨h0, h1⟩ := h
    go_enter Tryd.func6, Tryd.ntmps6
    go_wp2_with fail
    refine (alive_any _ (hT.below hB0)).mono ?_
    rintro e w1 ⟨rfl, hb⟩
    go_wp2
    go_ret
    exact ⟨rfl, hB0.trans (hb.mono hB0.size)⟩
  by_cases hk' : k' = 0
  · subst hk'
    obtain ⟨h0, h1⟩ := h
    have hkb : (k == 0) = false := beq_eq_false_iff_ne.2 hk
    go_enter Tryd.func6, Tryd.ntmps6
    go_wp2_with fail
    refine (alive_any _ (hT.below hB0)).mono ?_
    rintro e w1 ⟨rfl, hb⟩
    go_wp2
    go_ret
    exact ⟨rfl, hB0.trans (hb.mono hB0.size)⟩
  replace hp := fun hlt => Lib.hid (hp h hk hk' hlt)
  replace ht := Lib.hid (ht hk hk')
  have hkb : (k == 0) = false := beq_eq_false_iff_ne.2 hk
  have hkb' : (k' == 0) = false := beq_eq_false_iff_ne.2 hk'
  obtain ⟨h0, h1⟩ := h
  have hst := rk_start w A row.length c tc k k' i i' b b' s s' 23 34 3 25
  have hs := Lib.hid (show (((((w.alloc (.cells #[.slice A row.length c] 23)).alloc (.cells #[.int .i64 k, .bool b, .int .i64 i, .string s, .int .i64 k', .bool b', .int .i64 i', .string s'] 34)).alloc (.cells #[.int .i64 tc] 3)).alloc (.cells #[.int .i64 k, .bool b, .int .i64 i, .string s] 25)).alloc (.cells #[.int .i64 k', .bool b', .int .i64 i', .string s'] 25)).heap.size = w.heap.size + 1 + 1 + 1 + 1 + 1 by simp)
  go_enter Tryd.func6, Tryd.ntmps6
  go_wp2_with fail
  generalize ((((w.alloc (.cells #[.slice A row.length c] 23)).alloc (.cells #[.int .i64 k, .bool b, .int .i64 i, .string s, .int .i64 k', .bool b', .int .i64 i', .string s'] 34)).alloc (.cells #[.int .i64 tc] 3)).alloc (.cells #[.int .i64 k, .bool b, .int .i64 i, .string s] 25)).alloc (.cells #[.int .i64 k', .bool b', .int .i64 i', .string s'] 25) = W0 at *
  have hb1 := below_alloc (Below.refl W0.heap.size W0) (.cells #[.int .i64 k, .bool b, .int .i64 i, .string s] 25)
  have hC := C_block1 (d := kV) (x := ⟨k, b, i, s⟩) (blk_new W0 (.cells #[.int .i64 k, .bool b, .int .i64 i, .string s] 25)) (kV_K _ _)
  rw [hs.out] at hC
  have hB1 := hB0.trans (hb1.mono hB0.size)
  refine (term_any ⟨0, 2, ⟨k', b', i', s'⟩⟩ _ [⟨k, b, i, s⟩] 1 _ hC (by simp) (hT.below hB1)).mono ?_
  rintro e w1 ⟨rfl, hb2⟩
  rw [ht.out]
  have hw := hB1.trans (hb2.mono hB1.size)
  have hR := (hst.below hb1).below hb2
  clear hb2 hB1 hC hb1 hs hst
  by_cases hlt : cmpV ⟨k, b, i, s⟩ ⟨k', b', i', s'⟩ < 0
  case neg =>
    rw [decide_eq_false hlt]
    go_wp2_with fail
    refine (alive_any _ (hT.below hw)).mono ?_
    rintro e w2 ⟨rfl, hb⟩
    go_wp2
    go_ret
    exact ⟨rfl, hw.trans (hb.mono hw.size)⟩
  rw [decide_eq_true hlt]
  have hp := hp hlt
  obtain ⟨p1, p2, p3⟩ := hp.out
  clear hp ht hlt hB0
  obtain ⟨r0, r1, ⟨-, l0, l1, l2, l3⟩, ⟨-, m0, m1, m2, m3⟩⟩ := id hR
  simp only [Nat.zero_add] at l0 l1 l2 l3 m0 m1 m2 m3
  go_wp2_with fail
  refine (rk_any 3 ⟨k, b, i, s⟩ _ _ tc A row c _ r1 r0 (Kd.C_below hr hw) hc (hT.below hw)).mono ?_
  rintro e w3 ⟨rfl, hb⟩
  replace hw := hw.trans (hb.mono hw.size)
  replace hR := hR.below hb
  clear hb r0 r1 l0 l1 l2 l3 m0 m1 m2 m3
  cases e0 : termB ⟨tc, 3, ⟨k, b, i, s⟩⟩ row
  · clear e0
    obtain ⟨r0, r1, ⟨-, l0, l1, l2, l3⟩, ⟨-, m0, m1, m2, m3⟩⟩ := id hR
    simp only [Nat.zero_add] at l0 l1 l2 l3 m0 m1 m2 m3
    go_wp2_with fail
    refine (rk_any 5 ⟨k', b', i', s'⟩ _ _ tc A row c _ r1 r0 (Kd.C_below hr hw) hc (hT.below hw)).mono ?_
    rintro e w4 ⟨rfl, hb⟩
    replace hw := hw.trans (hb.mono hw.size)
    replace hR := hR.below hb
    clear hb r0 r1 l0 l1 l2 l3 m0 m1 m2 m3
    cases e1 : termB ⟨tc, 5, ⟨k', b', i', s'⟩⟩ row
    · clear e1
      go_wp2_with fail
      refine (alive_any _ (hT.below hw)).mono ?_
      rintro e wa ⟨rfl, hb⟩
      replace hw := hw.trans (hb.mono hw.size)
      replace hR := hR.below hb
      clear hb
      obtain ⟨r0, r1, ⟨-, l0, l1, l2, l3⟩, ⟨-, m0, m1, m2, m3⟩⟩ := id hR
      simp only [Nat.zero_add] at l0 l1 l2 l3 m0 m1 m2 m3
      go_wp2_with fail
      refine (rk_any 0 ⟨k, b, i, s⟩ _ _ tc A row c _ r1 r0 (Kd.C_below hr hw) hc (hT.below hw)).mono ?_
      rintro e w5 ⟨rfl, hb⟩
      replace hw := hw.trans (hb.mono hw.size)
      replace hR := hR.below hb
      clear hb r0 r1 l0 l1 l2 l3 m0 m1 m2 m3
      cases e2 : termB ⟨tc, 0, ⟨k, b, i, s⟩⟩ row
      · clear e2
        go_wp2
        go_ret
        exact ⟨rfl, hw⟩
      · have e2' := p3 e2
        clear e2
        obtain ⟨r0, r1, ⟨-, l0, l1, l2, l3⟩, ⟨-, m0, m1, m2, m3⟩⟩ := id hR
        simp only [Nat.zero_add] at l0 l1 l2 l3 m0 m1 m2 m3
        go_wp2_with fail
        refine (rk_any 0 ⟨k', b', i', s'⟩ _ _ tc A row c _ r1 r0 (Kd.C_below hr hw) hc (hT.below hw)).mono ?_
        rintro e w6 ⟨rfl, hb⟩
        replace hw := hw.trans (hb.mono hw.size)
        replace hR := hR.below hb
        clear hb r0 r1 l0 l1 l2 l3 m0 m1 m2 m3
        rw [e2']
        clear e2'
        go_wp2
        go_ret
        exact ⟨rfl, hw⟩
    · have e1' := p2 e1
      clear e1
      obtain ⟨r0, r1, ⟨-, l0, l1, l2, l3⟩, ⟨-, m0, m1, m2, m3⟩⟩ := id hR
      simp only [Nat.zero_add] at l0 l1 l2 l3 m0 m1 m2 m3
      go_wp2_with fail
      refine (rk_any 4 ⟨k, b, i, s⟩ _ _ tc A row c _ r1 r0 (Kd.C_below hr hw) hc (hT.below hw)).mono ?_
      rintro e w7 ⟨rfl, hb⟩
      replace hw := hw.trans (hb.mono hw.size)
      replace hR := hR.below hb
      clear hb r0 r1 l0 l1 l2 l3 m0 m1 m2 m3
      rw [e1']
      clear e1'
      go_wp2_with fail
      refine (alive_any _ (hT.below hw)).mono ?_
      rintro e wa ⟨rfl, hb⟩
      replace hw := hw.trans (hb.mono hw.size)
      replace hR := hR.below hb
      clear hb
      obtain ⟨r0, r1, ⟨-, l0, l1, l2, l3⟩, ⟨-, m0, m1, m2, m3⟩⟩ := id hR
      simp only [Nat.zero_add] at l0 l1 l2 l3 m0 m1 m2 m3
      go_wp2_with fail
      refine (rk_any 0 ⟨k, b, i, s⟩ _ _ tc A row c _ r1 r0 (Kd.C_below hr hw) hc (hT.below hw)).mono ?_
      rintro e w8 ⟨rfl, hb⟩
      replace hw := hw.trans (hb.mono hw.size)
      replace hR := hR.below hb
      clear hb r0 r1 l0 l1 l2 l3 m0 m1 m2 m3
      cases e2 : termB ⟨tc, 0, ⟨k, b, i, s⟩⟩ row
      · clear e2
        go_wp2
        go_ret
        exact ⟨rfl, hw⟩
      · have e2' := p3 e2
        clear e2
        obtain ⟨r0, r1, ⟨-, l0, l1, l2, l3⟩, ⟨-, m0, m1, m2, m3⟩⟩ := id hR
        simp only [Nat.zero_add] at l0 l1 l2 l3 m0 m1 m2 m3
        go_wp2_with fail
        refine (rk_any 0 ⟨k', b', i', s'⟩ _ _ tc A row c _ r1 r0 (Kd.C_below hr hw) hc (hT.below hw)).mono ?_
        rintro e w9 ⟨rfl, hb⟩
        replace hw := hw.trans (hb.mono hw.size)
        replace hR := hR.below hb
        clear hb r0 r1 l0 l1 l2 l3 m0 m1 m2 m3
        rw [e2']
        clear e2'
        go_wp2
        go_ret
        exact ⟨rfl, hw⟩
  · have e0' := p1 e0
    clear e0
    obtain ⟨r0, r1, ⟨-, l0, l1, l2, l3⟩, ⟨-, m0, m1, m2, m3⟩⟩ := id hR
    simp only [Nat.zero_add] at l0 l1 l2 l3 m0 m1 m2 m3
    go_wp2_with fail
    refine (rk_any 2 ⟨k', b', i', s'⟩ _ _ tc A row c _ r1 r0 (Kd.C_below hr hw) hc (hT.below hw)).mono ?_
    rintro e w10 ⟨rfl, hb⟩
    replace hw := hw.trans (hb.mono hw.size)
    replace hR := hR.below hb
    clear hb r0 r1 l0 l1 l2 l3 m0 m1 m2 m3
    rw [e0']
    clear e0'
    obtain ⟨r0, r1, ⟨-, l0, l1, l2, l3⟩, ⟨-, m0, m1, m2, m3⟩⟩ := id hR
    simp only [Nat.zero_add] at l0 l1 l2 l3 m0 m1 m2 m3
    go_wp2_with fail
    refine (rk_any 5 ⟨k', b', i', s'⟩ _ _ tc A row c _ r1 r0 (Kd.C_below hr hw) hc (hT.below hw)).mono ?_
    rintro e w11 ⟨rfl, hb⟩
    replace hw := hw.trans (hb.mono hw.size)
    replace hR := hR.below hb
    clear hb r0 r1 l0 l1 l2 l3 m0 m1 m2 m3
    cases e1 : termB ⟨tc, 5, ⟨k', b', i', s'⟩⟩ row
    · clear e1
      go_wp2_with fail
      refine (alive_any _ (hT.below hw)).mono ?_
      rintro e wa ⟨rfl, hb⟩
      replace hw := hw.trans (hb.mono hw.size)
      replace hR := hR.below hb
      clear hb
      obtain ⟨r0, r1, ⟨-, l0, l1, l2, l3⟩, ⟨-, m0, m1, m2, m3⟩⟩ := id hR
      simp only [Nat.zero_add] at l0 l1 l2 l3 m0 m1 m2 m3
      go_wp2_with fail
      refine (rk_any 0 ⟨k, b, i, s⟩ _ _ tc A row c _ r1 r0 (Kd.C_below hr hw) hc (hT.below hw)).mono ?_
      rintro e w12 ⟨rfl, hb⟩
      replace hw := hw.trans (hb.mono hw.size)
      replace hR := hR.below hb
      clear hb r0 r1 l0 l1 l2 l3 m0 m1 m2 m3
      cases e2 : termB ⟨tc, 0, ⟨k, b, i, s⟩⟩ row
      · clear e2
        go_wp2
        go_ret
        exact ⟨rfl, hw⟩
      · have e2' := p3 e2
        clear e2
        obtain ⟨r0, r1, ⟨-, l0, l1, l2, l3⟩, ⟨-, m0, m1, m2, m3⟩⟩ := id hR
        simp only [Nat.zero_add] at l0 l1 l2 l3 m0 m1 m2 m3
        go_wp2_with fail
        refine (rk_any 0 ⟨k', b', i', s'⟩ _ _ tc A row c _ r1 r0 (Kd.C_below hr hw) hc (hT.below hw)).mono ?_
        rintro e w13 ⟨rfl, hb⟩
        replace hw := hw.trans (hb.mono hw.size)
        replace hR := hR.below hb
        clear hb r0 r1 l0 l1 l2 l3 m0 m1 m2 m3
        rw [e2']
        clear e2'
        go_wp2
        go_ret
        exact ⟨rfl, hw⟩
    · have e1' := p2 e1
      clear e1
      obtain ⟨r0, r1, ⟨-, l0, l1, l2, l3⟩, ⟨-, m0, m1, m2, m3⟩⟩ := id hR
      simp only [Nat.zero_add] at l0 l1 l2 l3 m0 m1 m2 m3
      go_wp2_with fail
      refine (rk_any 4 ⟨k, b, i, s⟩ _ _ tc A row c _ r1 r0 (Kd.C_below hr hw) hc (hT.below hw)).mono ?_
      rintro e w14 ⟨rfl, hb⟩
      replace hw := hw.trans (hb.mono hw.size)
      replace hR := hR.below hb
      clear hb r0 r1 l0 l1 l2 l3 m0 m1 m2 m3
      rw [e1']
      clear e1'
      go_wp2_with fail
      refine (alive_any _ (hT.below hw)).mono ?_
      rintro e wa ⟨rfl, hb⟩
      replace hw := hw.trans (hb.mono hw.size)
      replace hR := hR.below hb
      clear hb
      obtain ⟨r0, r1, ⟨-, l0, l1, l2, l3⟩, ⟨-, m0, m1, m2, m3⟩⟩ := id hR
      simp only [Nat.zero_add] at l0 l1 l2 l3 m0 m1 m2 m3
      go_wp2_with fail
      refine (rk_any 0 ⟨k, b, i, s⟩ _ _ tc A row c _ r1 r0 (Kd.C_below hr hw) hc (hT.below hw)).mono ?_
      rintro e w15 ⟨rfl, hb⟩
      replace hw := hw.trans (hb.mono hw.size)
      replace hR := hR.below hb
      clear hb r0 r1 l0 l1 l2 l3 m0 m1 m2 m3
      cases e2 : termB ⟨tc, 0, ⟨k, b, i, s⟩⟩ row
      · clear e2
        go_wp2
        go_ret
        exact ⟨rfl, hw⟩
      · have e2' := p3 e2
        clear e2
        obtain ⟨r0, r1, ⟨-, l0, l1, l2, l3⟩, ⟨-, m0, m1, m2, m3⟩⟩ := id hR
        simp only [Nat.zero_add] at l0 l1 l2 l3 m0 m1 m2 m3
        go_wp2_with fail
        refine (rk_any 0 ⟨k', b', i', s'⟩ _ _ tc A row c _ r1 r0 (Kd.C_below hr hw) hc (hT.below hw)).mono ?_
        rintro e w16 ⟨rfl, hb⟩
        replace hw := hw.trans (hb.mono hw.size)
        replace hR := hR.below hb
        clear hb r0 r1 l0 l1 l2 l3 m0 m1 m2 m3
        rw [e2']
        clear e2'
        go_wp2
        go_ret
        exact ⟨rfl, hw⟩
end Go.Proofs.YtchemmppcdfljaaDoor.Op
