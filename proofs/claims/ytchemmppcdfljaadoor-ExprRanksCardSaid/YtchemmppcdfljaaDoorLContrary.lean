/- ExprContrary: the walk. -/
import Derived.Test.YtchemmppcdfljaaDoorExprAll
namespace Go.Proofs.YtchemmppcdfljaaDoor.Op
open Go.RowKit Go.Proofs.YtchemmppcdfljaaDoorW.PrintWords
set_option linter.unusedVariables false

set_option maxHeartbeats 1000000 in
theorem is_any (op : Int) (g h : Nat) (tc o : Int) (x : V) (A : Option Addr) (row : List V) (c : Nat) (w : World) (hg : T.At w ⟨g, 0, none⟩ ⟨tc, o, x⟩) (hh : w.cell? ⟨h, 0, none⟩ = some (.slice A row.length c))
    (hr : kV.C w A row.length row) (hc : row.length ≤ c) (hT : Tab w) :
    Calls Tryd.prog 14 #[.int .i64 op, .pointer (some ⟨g, 0, none⟩), .pointer (some ⟨h, 0, none⟩)] w fun e w' => e = .returned (.bool (termB ⟨tc, op, x⟩ row)) ∧ Below w.heap.size w w' := by
  obtain ⟨k, b, i, s⟩ := x
  obtain ⟨hlt, h0, h1, h2, h3, h4, h5⟩ := hg
  simp only [Nat.zero_add] at hlt h0 h1 h2 h3 h4 h5
  go_enter Tryd.func14, Tryd.ntmps14
  go_wp2_with fail
  refine (term_any ⟨tc, op, ⟨k, b, i, s⟩⟩ A row c _ hr hc hT).mono ?_
  rintro e w1 ⟨rfl, hb⟩
  go_wp2
  go_ret
  exact ⟨rfl, hb⟩

/-- What the eight terms say of a value, where it stands so to the term's. -/
theorem terms_at (tc : Int) (x : V) (row : List V) (h : 0 ≤ tc ∧ tc < row.length) (h1 : (row.getD tc.toNat V.z).k ≠ 0) (h2 : x.k ≠ 0) (n : Int) (hn : cmpV (row.getD tc.toNat V.z) x = n) :
    termB ⟨tc, 0, x⟩ row = (n == 0) ∧ termB ⟨tc, 1, x⟩ row = (n != 0) ∧ termB ⟨tc, 2, x⟩ row = decide (n < 0) ∧ termB ⟨tc, 3, x⟩ row = decide (n ≤ 0) ∧ termB ⟨tc, 4, x⟩ row = decide (0 < n) ∧ termB ⟨tc, 5, x⟩ row = decide (0 ≤ n) ∧ termB ⟨tc, 6, x⟩ row = false ∧ termB ⟨tc, 7, x⟩ row = true := by
  have hz : ¬ ((row.getD tc.toNat V.z).k = 0 ∨ x.k = 0) := by omega
  refine ⟨?_, ?_, ?_, ?_, ?_, ?_, ?_, ?_⟩
  all_goals rw [termB_ref _ row h n hn]
  all_goals simp only [if_neg hz]
  all_goals simp
  all_goals simpa using h1

def cntR (n : Int) (k : Nat) : Int := if n = -1 then (if k = 0 then 0 else 1) else if n = 0 then (if k ≤ 1 then 0 else 1) else (if k ≤ 2 then 0 else 1)

set_option maxHeartbeats 4000000 in
theorem contrary_lo (tc o : Int) (x : V) (A : Option Addr) (row : List V) (c : Nat) (w : World) (hr : kV.C w A row.length row) (hc : row.length ≤ c) (hT : Tab w)
    (h : 0 ≤ tc ∧ tc < row.length) (hk1 : (row.getD tc.toNat V.z).k ≠ 0) (hk2 : x.k ≠ 0) (hn : cmpV (row.getD tc.toNat V.z) x = (-1)) :
    Calls Tryd.prog 4 #[T.val ⟨tc, o, x⟩, .slice A row.length c] w fun e w' => e = .returned (.bool true) ∧ Below w.heap.size w w' := by
  obtain ⟨k, b, i, s⟩ := x
  have hm := hr.2.1
  have hterms := Lib.hid (terms_at tc ⟨k, b, i, s⟩ row h hk1 hk2 _ hn)
  clear hn
  obtain ⟨h0, h1⟩ := h
  obtain ⟨ad, rfl, hv⟩ := kV_at hr tc.toNat (by omega)
  generalize row.getD tc.toNat V.z = y at *
  obtain ⟨vk, vb, vi, vs⟩ := y
  obtain ⟨hlt, hv0, hv1, hv2, hv3⟩ := hv
  simp only at hv0 hv1 hv2 hv3 hk1 hk2
  have hk1b : (vk == 0) = false := beq_eq_false_iff_ne.2 hk1
  have hk2b : (k == 0) = false := beq_eq_false_iff_ne.2 hk2
  clear hk1 hk2
  unfold T.val
  go_enter Tryd.func4, Tryd.ntmps4
  go_wp2_with fail
  have hB00 := below_alloc (below_alloc (below_alloc (Below.refl w.heap.size w) (.cells #[.int .i64 tc, .int .i64 o, .int .i64 k, .bool b, .int .i64 i, .string s] 27)) (.cells #[.slice (some ad) row.length c] 23)) (.cells #[.int .i64 2, .int .i64 0, .int .i64 4] 3)
  have hb0 := blk_alloc (blk_alloc (blk_new w (.cells #[.int .i64 tc, .int .i64 o, .int .i64 k, .bool b, .int .i64 i, .string s] 27)) (.cells #[.slice (some ad) row.length c] 23)) (.cells #[.int .i64 2, .int .i64 0, .int .i64 4] 3)
  have hb1 := blk_alloc (blk_new (w.alloc (.cells #[.int .i64 tc, .int .i64 o, .int .i64 k, .bool b, .int .i64 i, .string s] 27)) (.cells #[.slice (some ad) row.length c] 23)) (.cells #[.int .i64 2, .int .i64 0, .int .i64 4] 3)
  have hb2 := blk_new ((w.alloc (.cells #[.int .i64 tc, .int .i64 o, .int .i64 k, .bool b, .int .i64 i, .string s] 27)).alloc (.cells #[.slice (some ad) row.length c] 23)) (.cells #[.int .i64 2, .int .i64 0, .int .i64 4] 3)
  have hs : (((w.alloc (.cells #[.int .i64 tc, .int .i64 o, .int .i64 k, .bool b, .int .i64 i, .string s] 27)).alloc (.cells #[.slice (some ad) row.length c] 23)).alloc (.cells #[.int .i64 2, .int .i64 0, .int .i64 4] 3)).heap.size = w.heap.size + 1 + 1 + 1 := by simp
  simp only [World.size_alloc] at hb1 hb2
  generalize ((w.alloc (.cells #[.int .i64 tc, .int .i64 o, .int .i64 k, .bool b, .int .i64 i, .string s] 27)).alloc (.cells #[.slice (some ad) row.length c] 23)).alloc (.cells #[.int .i64 2, .int .i64 0, .int .i64 4] 3) = W0 at *
  have hAt : T.At W0 ⟨w.heap.size, 0, none⟩ ⟨tc, o, ⟨k, b, i, s⟩⟩ := ⟨blk_lt hb0, (blk_cell hb0 0).trans rfl, (blk_cell hb0 1).trans rfl, (blk_cell hb0 2).trans rfl, (blk_cell hb0 3).trans rfl, (blk_cell hb0 4).trans rfl, (blk_cell hb0 5).trans rfl⟩
  have hCell : W0.cell? ⟨w.heap.size + 1, 0, none⟩ = some (.slice (some ad) row.length c) := (blk_cell hb1 0).trans rfl
  have c0 : W0.cell? ⟨w.heap.size + 1 + 1, 0, none⟩ = some (.int .i64 2) := (blk_cell hb2 0).trans rfl
  have c1 : W0.cell? ⟨w.heap.size + 1 + 1, 1, none⟩ = some (.int .i64 0) := (blk_cell hb2 1).trans rfl
  have c2 : W0.cell? ⟨w.heap.size + 1 + 1, 2, none⟩ = some (.int .i64 4) := (blk_cell hb2 2).trans rfl
  have hr0 := Kd.C_below hr hB00
  have hT0 := hT.below hB00
  have hlt2 : w.heap.size + 1 + 1 < W0.heap.size := blk_lt hb2
  have HS := Lib.hid hs
  clear hs hb0 hb1 hb2 hv0 hv1 hv2 hv3 hlt
  obtain ⟨t0, t1, t2, t3, t4, t5, t6, t7⟩ := hterms.out
  clear hterms
  simp at t0 t1 t2 t3 t4 t5
  go_loopw [38, 6] (fun i n' wr => ∃ j : Nat, i = .int .i64 j ∧ j ≤ 3 ∧ n' = .int .i64 (cntR (-1) j) ∧ Below W0.heap.size W0 wr) (fun i _ _ => 3 - (intOf i).toNat)
  case atStart => exact ⟨0, rfl, by omega, rfl, Below.refl _ _⟩
  case round =>
  obtain ⟨j, rfl, hj, rfl, hB0⟩ := hrel
  obtain ⟨hbc, hbf⟩ := bcell hB0
  have hj3 : j = 0 ∨ j = 1 ∨ j = 2 ∨ j = 3 := by omega
  rcases hj3 with rfl | rfl | rfl | rfl
  · rw [show cntR (-1) 0 = 0 from rfl]
    go_wp2_with fail
    refine (is_any 2 _ _ tc o ⟨k, b, i, s⟩ (some ad) row c _ (hAt.below hB0) (pw_cell_below hB0 hCell) (Kd.C_below hr0 hB0) hc (hT0.below hB0)).mono ?_
    rintro e w1 ⟨rfl, hb⟩
    rw [t2]
    have hB1 := hB0.trans (hb.mono hB0.size)
    clear hb
    go_wp2
    go_roundw
    case rel => exact ⟨1, rfl, by omega, rfl, hB1⟩
    case measure => simp [intOf]
  · rw [show cntR (-1) 1 = 1 from rfl]
    go_wp2_with fail
    refine (is_any 0 _ _ tc o ⟨k, b, i, s⟩ (some ad) row c _ (hAt.below hB0) (pw_cell_below hB0 hCell) (Kd.C_below hr0 hB0) hc (hT0.below hB0)).mono ?_
    rintro e w1 ⟨rfl, hb⟩
    rw [t0]
    have hB1 := hB0.trans (hb.mono hB0.size)
    clear hb
    go_wp2
    go_roundw
    case rel => exact ⟨2, rfl, by omega, rfl, hB1⟩
    case measure => simp [intOf]
  · rw [show cntR (-1) 2 = 1 from rfl]
    go_wp2_with fail
    refine (is_any 4 _ _ tc o ⟨k, b, i, s⟩ (some ad) row c _ (hAt.below hB0) (pw_cell_below hB0 hCell) (Kd.C_below hr0 hB0) hc (hT0.below hB0)).mono ?_
    rintro e w1 ⟨rfl, hb⟩
    rw [t4]
    have hB1 := hB0.trans (hb.mono hB0.size)
    clear hb
    go_wp2
    go_roundw
    case rel => exact ⟨3, rfl, by omega, rfl, hB1⟩
    case measure => simp [intOf]
  · rw [show cntR (-1) 3 = 1 from rfl]
    go_wp2_with fail
    refine (alive_any _ (hT0.below hB0)).mono ?_
    rintro e w1 ⟨rfl, hb⟩
    have hB1 := hB0.trans (hb.mono hB0.size)
    clear hb hbc hbf
    go_wp2_with fail
    refine (is_any 1 _ _ tc o ⟨k, b, i, s⟩ (some ad) row c _ (hAt.below hB1) (pw_cell_below hB1 hCell) (Kd.C_below hr0 hB1) hc (hT0.below hB1)).mono ?_
    rintro e w2 ⟨rfl, hb⟩
    rw [t1]
    have hB2 := hB1.trans (hb.mono hB1.size)
    clear hb
    go_wp2_with fail
    refine (is_any 0 _ _ tc o ⟨k, b, i, s⟩ (some ad) row c _ (hAt.below hB2) (pw_cell_below hB2 hCell) (Kd.C_below hr0 hB2) hc (hT0.below hB2)).mono ?_
    rintro e w3 ⟨rfl, hb⟩
    rw [t0]
    have hB3 := hB2.trans (hb.mono hB2.size)
    clear hb
    go_wp2_with fail
    refine (is_any 3 _ _ tc o ⟨k, b, i, s⟩ (some ad) row c _ (hAt.below hB3) (pw_cell_below hB3 hCell) (Kd.C_below hr0 hB3) hc (hT0.below hB3)).mono ?_
    rintro e w4 ⟨rfl, hb⟩
    rw [t3]
    have hB4 := hB3.trans (hb.mono hB3.size)
    clear hb
    go_wp2_with fail
    refine (is_any 4 _ _ tc o ⟨k, b, i, s⟩ (some ad) row c _ (hAt.below hB4) (pw_cell_below hB4 hCell) (Kd.C_below hr0 hB4) hc (hT0.below hB4)).mono ?_
    rintro e w5 ⟨rfl, hb⟩
    rw [t4]
    have hB5 := hB4.trans (hb.mono hB4.size)
    clear hb
    go_wp2_with fail
    refine (is_any 5 _ _ tc o ⟨k, b, i, s⟩ (some ad) row c _ (hAt.below hB5) (pw_cell_below hB5 hCell) (Kd.C_below hr0 hB5) hc (hT0.below hB5)).mono ?_
    rintro e w6 ⟨rfl, hb⟩
    rw [t5]
    have hB6 := hB5.trans (hb.mono hB5.size)
    clear hb
    go_wp2_with fail
    refine (is_any 2 _ _ tc o ⟨k, b, i, s⟩ (some ad) row c _ (hAt.below hB6) (pw_cell_below hB6 hCell) (Kd.C_below hr0 hB6) hc (hT0.below hB6)).mono ?_
    rintro e w7 ⟨rfl, hb⟩
    rw [t2]
    have hB7 := hB6.trans (hb.mono hB6.size)
    clear hb
    go_wp2_with fail
    refine (is_any 7 _ _ tc o ⟨k, b, i, s⟩ (some ad) row c _ (hAt.below hB7) (pw_cell_below hB7 hCell) (Kd.C_below hr0 hB7) hc (hT0.below hB7)).mono ?_
    rintro e w8 ⟨rfl, hb⟩
    rw [t7]
    have hB8 := hB7.trans (hb.mono hB7.size)
    clear hb
    go_wp2_with fail
    refine (is_any 6 _ _ tc o ⟨k, b, i, s⟩ (some ad) row c _ (hAt.below hB8) (pw_cell_below hB8 hCell) (Kd.C_below hr0 hB8) hc (hT0.below hB8)).mono ?_
    rintro e w9 ⟨rfl, hb⟩
    rw [t6]
    have hB9 := hB8.trans (hb.mono hB8.size)
    clear hb
    go_wp2
    go_ret
    exact ⟨rfl, hB00.trans (hB9.mono hB00.size)⟩

set_option maxHeartbeats 4000000 in
theorem contrary_eq (tc o : Int) (x : V) (A : Option Addr) (row : List V) (c : Nat) (w : World) (hr : kV.C w A row.length row) (hc : row.length ≤ c) (hT : Tab w)
    (h : 0 ≤ tc ∧ tc < row.length) (hk1 : (row.getD tc.toNat V.z).k ≠ 0) (hk2 : x.k ≠ 0) (hn : cmpV (row.getD tc.toNat V.z) x = 0) :
    Calls Tryd.prog 4 #[T.val ⟨tc, o, x⟩, .slice A row.length c] w fun e w' => e = .returned (.bool true) ∧ Below w.heap.size w w' := by
  obtain ⟨k, b, i, s⟩ := x
  have hm := hr.2.1
  have hterms := Lib.hid (terms_at tc ⟨k, b, i, s⟩ row h hk1 hk2 _ hn)
  clear hn
  obtain ⟨h0, h1⟩ := h
  obtain ⟨ad, rfl, hv⟩ := kV_at hr tc.toNat (by omega)
  generalize row.getD tc.toNat V.z = y at *
  obtain ⟨vk, vb, vi, vs⟩ := y
  obtain ⟨hlt, hv0, hv1, hv2, hv3⟩ := hv
  simp only at hv0 hv1 hv2 hv3 hk1 hk2
  have hk1b : (vk == 0) = false := beq_eq_false_iff_ne.2 hk1
  have hk2b : (k == 0) = false := beq_eq_false_iff_ne.2 hk2
  clear hk1 hk2
  unfold T.val
  go_enter Tryd.func4, Tryd.ntmps4
  go_wp2_with fail
  have hB00 := below_alloc (below_alloc (below_alloc (Below.refl w.heap.size w) (.cells #[.int .i64 tc, .int .i64 o, .int .i64 k, .bool b, .int .i64 i, .string s] 27)) (.cells #[.slice (some ad) row.length c] 23)) (.cells #[.int .i64 2, .int .i64 0, .int .i64 4] 3)
  have hb0 := blk_alloc (blk_alloc (blk_new w (.cells #[.int .i64 tc, .int .i64 o, .int .i64 k, .bool b, .int .i64 i, .string s] 27)) (.cells #[.slice (some ad) row.length c] 23)) (.cells #[.int .i64 2, .int .i64 0, .int .i64 4] 3)
  have hb1 := blk_alloc (blk_new (w.alloc (.cells #[.int .i64 tc, .int .i64 o, .int .i64 k, .bool b, .int .i64 i, .string s] 27)) (.cells #[.slice (some ad) row.length c] 23)) (.cells #[.int .i64 2, .int .i64 0, .int .i64 4] 3)
  have hb2 := blk_new ((w.alloc (.cells #[.int .i64 tc, .int .i64 o, .int .i64 k, .bool b, .int .i64 i, .string s] 27)).alloc (.cells #[.slice (some ad) row.length c] 23)) (.cells #[.int .i64 2, .int .i64 0, .int .i64 4] 3)
  have hs : (((w.alloc (.cells #[.int .i64 tc, .int .i64 o, .int .i64 k, .bool b, .int .i64 i, .string s] 27)).alloc (.cells #[.slice (some ad) row.length c] 23)).alloc (.cells #[.int .i64 2, .int .i64 0, .int .i64 4] 3)).heap.size = w.heap.size + 1 + 1 + 1 := by simp
  simp only [World.size_alloc] at hb1 hb2
  generalize ((w.alloc (.cells #[.int .i64 tc, .int .i64 o, .int .i64 k, .bool b, .int .i64 i, .string s] 27)).alloc (.cells #[.slice (some ad) row.length c] 23)).alloc (.cells #[.int .i64 2, .int .i64 0, .int .i64 4] 3) = W0 at *
  have hAt : T.At W0 ⟨w.heap.size, 0, none⟩ ⟨tc, o, ⟨k, b, i, s⟩⟩ := ⟨blk_lt hb0, (blk_cell hb0 0).trans rfl, (blk_cell hb0 1).trans rfl, (blk_cell hb0 2).trans rfl, (blk_cell hb0 3).trans rfl, (blk_cell hb0 4).trans rfl, (blk_cell hb0 5).trans rfl⟩
  have hCell : W0.cell? ⟨w.heap.size + 1, 0, none⟩ = some (.slice (some ad) row.length c) := (blk_cell hb1 0).trans rfl
  have c0 : W0.cell? ⟨w.heap.size + 1 + 1, 0, none⟩ = some (.int .i64 2) := (blk_cell hb2 0).trans rfl
  have c1 : W0.cell? ⟨w.heap.size + 1 + 1, 1, none⟩ = some (.int .i64 0) := (blk_cell hb2 1).trans rfl
  have c2 : W0.cell? ⟨w.heap.size + 1 + 1, 2, none⟩ = some (.int .i64 4) := (blk_cell hb2 2).trans rfl
  have hr0 := Kd.C_below hr hB00
  have hT0 := hT.below hB00
  have hlt2 : w.heap.size + 1 + 1 < W0.heap.size := blk_lt hb2
  have HS := Lib.hid hs
  clear hs hb0 hb1 hb2 hv0 hv1 hv2 hv3 hlt
  obtain ⟨t0, t1, t2, t3, t4, t5, t6, t7⟩ := hterms.out
  clear hterms
  simp at t0 t1 t2 t3 t4 t5
  go_loopw [38, 6] (fun i n' wr => ∃ j : Nat, i = .int .i64 j ∧ j ≤ 3 ∧ n' = .int .i64 (cntR 0 j) ∧ Below W0.heap.size W0 wr) (fun i _ _ => 3 - (intOf i).toNat)
  case atStart => exact ⟨0, rfl, by omega, rfl, Below.refl _ _⟩
  case round =>
  obtain ⟨j, rfl, hj, rfl, hB0⟩ := hrel
  obtain ⟨hbc, hbf⟩ := bcell hB0
  have hj3 : j = 0 ∨ j = 1 ∨ j = 2 ∨ j = 3 := by omega
  rcases hj3 with rfl | rfl | rfl | rfl
  · rw [show cntR 0 0 = 0 from rfl]
    go_wp2_with fail
    refine (is_any 2 _ _ tc o ⟨k, b, i, s⟩ (some ad) row c _ (hAt.below hB0) (pw_cell_below hB0 hCell) (Kd.C_below hr0 hB0) hc (hT0.below hB0)).mono ?_
    rintro e w1 ⟨rfl, hb⟩
    rw [t2]
    have hB1 := hB0.trans (hb.mono hB0.size)
    clear hb
    go_wp2
    go_roundw
    case rel => exact ⟨1, rfl, by omega, rfl, hB1⟩
    case measure => simp [intOf]
  · rw [show cntR 0 1 = 0 from rfl]
    go_wp2_with fail
    refine (is_any 0 _ _ tc o ⟨k, b, i, s⟩ (some ad) row c _ (hAt.below hB0) (pw_cell_below hB0 hCell) (Kd.C_below hr0 hB0) hc (hT0.below hB0)).mono ?_
    rintro e w1 ⟨rfl, hb⟩
    rw [t0]
    have hB1 := hB0.trans (hb.mono hB0.size)
    clear hb
    go_wp2
    go_roundw
    case rel => exact ⟨2, rfl, by omega, rfl, hB1⟩
    case measure => simp [intOf]
  · rw [show cntR 0 2 = 1 from rfl]
    go_wp2_with fail
    refine (is_any 4 _ _ tc o ⟨k, b, i, s⟩ (some ad) row c _ (hAt.below hB0) (pw_cell_below hB0 hCell) (Kd.C_below hr0 hB0) hc (hT0.below hB0)).mono ?_
    rintro e w1 ⟨rfl, hb⟩
    rw [t4]
    have hB1 := hB0.trans (hb.mono hB0.size)
    clear hb
    go_wp2
    go_roundw
    case rel => exact ⟨3, rfl, by omega, rfl, hB1⟩
    case measure => simp [intOf]
  · rw [show cntR 0 3 = 1 from rfl]
    go_wp2_with fail
    refine (alive_any _ (hT0.below hB0)).mono ?_
    rintro e w1 ⟨rfl, hb⟩
    have hB1 := hB0.trans (hb.mono hB0.size)
    clear hb hbc hbf
    go_wp2_with fail
    refine (is_any 1 _ _ tc o ⟨k, b, i, s⟩ (some ad) row c _ (hAt.below hB1) (pw_cell_below hB1 hCell) (Kd.C_below hr0 hB1) hc (hT0.below hB1)).mono ?_
    rintro e w2 ⟨rfl, hb⟩
    rw [t1]
    have hB2 := hB1.trans (hb.mono hB1.size)
    clear hb
    go_wp2_with fail
    refine (is_any 0 _ _ tc o ⟨k, b, i, s⟩ (some ad) row c _ (hAt.below hB2) (pw_cell_below hB2 hCell) (Kd.C_below hr0 hB2) hc (hT0.below hB2)).mono ?_
    rintro e w3 ⟨rfl, hb⟩
    rw [t0]
    have hB3 := hB2.trans (hb.mono hB2.size)
    clear hb
    go_wp2_with fail
    refine (is_any 3 _ _ tc o ⟨k, b, i, s⟩ (some ad) row c _ (hAt.below hB3) (pw_cell_below hB3 hCell) (Kd.C_below hr0 hB3) hc (hT0.below hB3)).mono ?_
    rintro e w4 ⟨rfl, hb⟩
    rw [t3]
    have hB4 := hB3.trans (hb.mono hB3.size)
    clear hb
    go_wp2_with fail
    refine (is_any 4 _ _ tc o ⟨k, b, i, s⟩ (some ad) row c _ (hAt.below hB4) (pw_cell_below hB4 hCell) (Kd.C_below hr0 hB4) hc (hT0.below hB4)).mono ?_
    rintro e w5 ⟨rfl, hb⟩
    rw [t4]
    have hB5 := hB4.trans (hb.mono hB4.size)
    clear hb
    go_wp2_with fail
    refine (is_any 5 _ _ tc o ⟨k, b, i, s⟩ (some ad) row c _ (hAt.below hB5) (pw_cell_below hB5 hCell) (Kd.C_below hr0 hB5) hc (hT0.below hB5)).mono ?_
    rintro e w6 ⟨rfl, hb⟩
    rw [t5]
    have hB6 := hB5.trans (hb.mono hB5.size)
    clear hb
    go_wp2_with fail
    refine (is_any 2 _ _ tc o ⟨k, b, i, s⟩ (some ad) row c _ (hAt.below hB6) (pw_cell_below hB6 hCell) (Kd.C_below hr0 hB6) hc (hT0.below hB6)).mono ?_
    rintro e w7 ⟨rfl, hb⟩
    rw [t2]
    have hB7 := hB6.trans (hb.mono hB6.size)
    clear hb
    go_wp2_with fail
    refine (is_any 7 _ _ tc o ⟨k, b, i, s⟩ (some ad) row c _ (hAt.below hB7) (pw_cell_below hB7 hCell) (Kd.C_below hr0 hB7) hc (hT0.below hB7)).mono ?_
    rintro e w8 ⟨rfl, hb⟩
    rw [t7]
    have hB8 := hB7.trans (hb.mono hB7.size)
    clear hb
    go_wp2_with fail
    refine (is_any 6 _ _ tc o ⟨k, b, i, s⟩ (some ad) row c _ (hAt.below hB8) (pw_cell_below hB8 hCell) (Kd.C_below hr0 hB8) hc (hT0.below hB8)).mono ?_
    rintro e w9 ⟨rfl, hb⟩
    rw [t6]
    have hB9 := hB8.trans (hb.mono hB8.size)
    clear hb
    go_wp2
    go_ret
    exact ⟨rfl, hB00.trans (hB9.mono hB00.size)⟩

set_option maxHeartbeats 4000000 in
theorem contrary_hi (tc o : Int) (x : V) (A : Option Addr) (row : List V) (c : Nat) (w : World) (hr : kV.C w A row.length row) (hc : row.length ≤ c) (hT : Tab w)
    (h : 0 ≤ tc ∧ tc < row.length) (hk1 : (row.getD tc.toNat V.z).k ≠ 0) (hk2 : x.k ≠ 0) (hn : cmpV (row.getD tc.toNat V.z) x = 1) :
    Calls Tryd.prog 4 #[T.val ⟨tc, o, x⟩, .slice A row.length c] w fun e w' => e = .returned (.bool true) ∧ Below w.heap.size w w' := by
  obtain ⟨k, b, i, s⟩ := x
  have hm := hr.2.1
  have hterms := Lib.hid (terms_at tc ⟨k, b, i, s⟩ row h hk1 hk2 _ hn)
  clear hn
  obtain ⟨h0, h1⟩ := h
  obtain ⟨ad, rfl, hv⟩ := kV_at hr tc.toNat (by omega)
  generalize row.getD tc.toNat V.z = y at *
  obtain ⟨vk, vb, vi, vs⟩ := y
  obtain ⟨hlt, hv0, hv1, hv2, hv3⟩ := hv
  simp only at hv0 hv1 hv2 hv3 hk1 hk2
  have hk1b : (vk == 0) = false := beq_eq_false_iff_ne.2 hk1
  have hk2b : (k == 0) = false := beq_eq_false_iff_ne.2 hk2
  clear hk1 hk2
  unfold T.val
  go_enter Tryd.func4, Tryd.ntmps4
  go_wp2_with fail
  have hB00 := below_alloc (below_alloc (below_alloc (Below.refl w.heap.size w) (.cells #[.int .i64 tc, .int .i64 o, .int .i64 k, .bool b, .int .i64 i, .string s] 27)) (.cells #[.slice (some ad) row.length c] 23)) (.cells #[.int .i64 2, .int .i64 0, .int .i64 4] 3)
  have hb0 := blk_alloc (blk_alloc (blk_new w (.cells #[.int .i64 tc, .int .i64 o, .int .i64 k, .bool b, .int .i64 i, .string s] 27)) (.cells #[.slice (some ad) row.length c] 23)) (.cells #[.int .i64 2, .int .i64 0, .int .i64 4] 3)
  have hb1 := blk_alloc (blk_new (w.alloc (.cells #[.int .i64 tc, .int .i64 o, .int .i64 k, .bool b, .int .i64 i, .string s] 27)) (.cells #[.slice (some ad) row.length c] 23)) (.cells #[.int .i64 2, .int .i64 0, .int .i64 4] 3)
  have hb2 := blk_new ((w.alloc (.cells #[.int .i64 tc, .int .i64 o, .int .i64 k, .bool b, .int .i64 i, .string s] 27)).alloc (.cells #[.slice (some ad) row.length c] 23)) (.cells #[.int .i64 2, .int .i64 0, .int .i64 4] 3)
  have hs : (((w.alloc (.cells #[.int .i64 tc, .int .i64 o, .int .i64 k, .bool b, .int .i64 i, .string s] 27)).alloc (.cells #[.slice (some ad) row.length c] 23)).alloc (.cells #[.int .i64 2, .int .i64 0, .int .i64 4] 3)).heap.size = w.heap.size + 1 + 1 + 1 := by simp
  simp only [World.size_alloc] at hb1 hb2
  generalize ((w.alloc (.cells #[.int .i64 tc, .int .i64 o, .int .i64 k, .bool b, .int .i64 i, .string s] 27)).alloc (.cells #[.slice (some ad) row.length c] 23)).alloc (.cells #[.int .i64 2, .int .i64 0, .int .i64 4] 3) = W0 at *
  have hAt : T.At W0 ⟨w.heap.size, 0, none⟩ ⟨tc, o, ⟨k, b, i, s⟩⟩ := ⟨blk_lt hb0, (blk_cell hb0 0).trans rfl, (blk_cell hb0 1).trans rfl, (blk_cell hb0 2).trans rfl, (blk_cell hb0 3).trans rfl, (blk_cell hb0 4).trans rfl, (blk_cell hb0 5).trans rfl⟩
  have hCell : W0.cell? ⟨w.heap.size + 1, 0, none⟩ = some (.slice (some ad) row.length c) := (blk_cell hb1 0).trans rfl
  have c0 : W0.cell? ⟨w.heap.size + 1 + 1, 0, none⟩ = some (.int .i64 2) := (blk_cell hb2 0).trans rfl
  have c1 : W0.cell? ⟨w.heap.size + 1 + 1, 1, none⟩ = some (.int .i64 0) := (blk_cell hb2 1).trans rfl
  have c2 : W0.cell? ⟨w.heap.size + 1 + 1, 2, none⟩ = some (.int .i64 4) := (blk_cell hb2 2).trans rfl
  have hr0 := Kd.C_below hr hB00
  have hT0 := hT.below hB00
  have hlt2 : w.heap.size + 1 + 1 < W0.heap.size := blk_lt hb2
  have HS := Lib.hid hs
  clear hs hb0 hb1 hb2 hv0 hv1 hv2 hv3 hlt
  obtain ⟨t0, t1, t2, t3, t4, t5, t6, t7⟩ := hterms.out
  clear hterms
  simp at t0 t1 t2 t3 t4 t5
  go_loopw [38, 6] (fun i n' wr => ∃ j : Nat, i = .int .i64 j ∧ j ≤ 3 ∧ n' = .int .i64 (cntR 1 j) ∧ Below W0.heap.size W0 wr) (fun i _ _ => 3 - (intOf i).toNat)
  case atStart => exact ⟨0, rfl, by omega, rfl, Below.refl _ _⟩
  case round =>
  obtain ⟨j, rfl, hj, rfl, hB0⟩ := hrel
  obtain ⟨hbc, hbf⟩ := bcell hB0
  have hj3 : j = 0 ∨ j = 1 ∨ j = 2 ∨ j = 3 := by omega
  rcases hj3 with rfl | rfl | rfl | rfl
  · rw [show cntR 1 0 = 0 from rfl]
    go_wp2_with fail
    refine (is_any 2 _ _ tc o ⟨k, b, i, s⟩ (some ad) row c _ (hAt.below hB0) (pw_cell_below hB0 hCell) (Kd.C_below hr0 hB0) hc (hT0.below hB0)).mono ?_
    rintro e w1 ⟨rfl, hb⟩
    rw [t2]
    have hB1 := hB0.trans (hb.mono hB0.size)
    clear hb
    go_wp2
    go_roundw
    case rel => exact ⟨1, rfl, by omega, rfl, hB1⟩
    case measure => simp [intOf]
  · rw [show cntR 1 1 = 0 from rfl]
    go_wp2_with fail
    refine (is_any 0 _ _ tc o ⟨k, b, i, s⟩ (some ad) row c _ (hAt.below hB0) (pw_cell_below hB0 hCell) (Kd.C_below hr0 hB0) hc (hT0.below hB0)).mono ?_
    rintro e w1 ⟨rfl, hb⟩
    rw [t0]
    have hB1 := hB0.trans (hb.mono hB0.size)
    clear hb
    go_wp2
    go_roundw
    case rel => exact ⟨2, rfl, by omega, rfl, hB1⟩
    case measure => simp [intOf]
  · rw [show cntR 1 2 = 0 from rfl]
    go_wp2_with fail
    refine (is_any 4 _ _ tc o ⟨k, b, i, s⟩ (some ad) row c _ (hAt.below hB0) (pw_cell_below hB0 hCell) (Kd.C_below hr0 hB0) hc (hT0.below hB0)).mono ?_
    rintro e w1 ⟨rfl, hb⟩
    rw [t4]
    have hB1 := hB0.trans (hb.mono hB0.size)
    clear hb
    go_wp2
    go_roundw
    case rel => exact ⟨3, rfl, by omega, rfl, hB1⟩
    case measure => simp [intOf]
  · rw [show cntR 1 3 = 1 from rfl]
    go_wp2_with fail
    refine (alive_any _ (hT0.below hB0)).mono ?_
    rintro e w1 ⟨rfl, hb⟩
    have hB1 := hB0.trans (hb.mono hB0.size)
    clear hb hbc hbf
    go_wp2_with fail
    refine (is_any 1 _ _ tc o ⟨k, b, i, s⟩ (some ad) row c _ (hAt.below hB1) (pw_cell_below hB1 hCell) (Kd.C_below hr0 hB1) hc (hT0.below hB1)).mono ?_
    rintro e w2 ⟨rfl, hb⟩
    rw [t1]
    have hB2 := hB1.trans (hb.mono hB1.size)
    clear hb
    go_wp2_with fail
    refine (is_any 0 _ _ tc o ⟨k, b, i, s⟩ (some ad) row c _ (hAt.below hB2) (pw_cell_below hB2 hCell) (Kd.C_below hr0 hB2) hc (hT0.below hB2)).mono ?_
    rintro e w3 ⟨rfl, hb⟩
    rw [t0]
    have hB3 := hB2.trans (hb.mono hB2.size)
    clear hb
    go_wp2_with fail
    refine (is_any 3 _ _ tc o ⟨k, b, i, s⟩ (some ad) row c _ (hAt.below hB3) (pw_cell_below hB3 hCell) (Kd.C_below hr0 hB3) hc (hT0.below hB3)).mono ?_
    rintro e w4 ⟨rfl, hb⟩
    rw [t3]
    have hB4 := hB3.trans (hb.mono hB3.size)
    clear hb
    go_wp2_with fail
    refine (is_any 4 _ _ tc o ⟨k, b, i, s⟩ (some ad) row c _ (hAt.below hB4) (pw_cell_below hB4 hCell) (Kd.C_below hr0 hB4) hc (hT0.below hB4)).mono ?_
    rintro e w5 ⟨rfl, hb⟩
    rw [t4]
    have hB5 := hB4.trans (hb.mono hB4.size)
    clear hb
    go_wp2_with fail
    refine (is_any 5 _ _ tc o ⟨k, b, i, s⟩ (some ad) row c _ (hAt.below hB5) (pw_cell_below hB5 hCell) (Kd.C_below hr0 hB5) hc (hT0.below hB5)).mono ?_
    rintro e w6 ⟨rfl, hb⟩
    rw [t5]
    have hB6 := hB5.trans (hb.mono hB5.size)
    clear hb
    go_wp2_with fail
    refine (is_any 2 _ _ tc o ⟨k, b, i, s⟩ (some ad) row c _ (hAt.below hB6) (pw_cell_below hB6 hCell) (Kd.C_below hr0 hB6) hc (hT0.below hB6)).mono ?_
    rintro e w7 ⟨rfl, hb⟩
    rw [t2]
    have hB7 := hB6.trans (hb.mono hB6.size)
    clear hb
    go_wp2_with fail
    refine (is_any 7 _ _ tc o ⟨k, b, i, s⟩ (some ad) row c _ (hAt.below hB7) (pw_cell_below hB7 hCell) (Kd.C_below hr0 hB7) hc (hT0.below hB7)).mono ?_
    rintro e w8 ⟨rfl, hb⟩
    rw [t7]
    have hB8 := hB7.trans (hb.mono hB7.size)
    clear hb
    go_wp2_with fail
    refine (is_any 6 _ _ tc o ⟨k, b, i, s⟩ (some ad) row c _ (hAt.below hB8) (pw_cell_below hB8 hCell) (Kd.C_below hr0 hB8) hc (hT0.below hB8)).mono ?_
    rintro e w9 ⟨rfl, hb⟩
    rw [t6]
    have hB9 := hB8.trans (hb.mono hB8.size)
    clear hb
    go_wp2
    go_ret
    exact ⟨rfl, hB00.trans (hB9.mono hB00.size)⟩

end Go.Proofs.YtchemmppcdfljaaDoor.Op
