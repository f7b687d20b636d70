/- value.Fits and the reference's: may a column have a value? (IN WORK) -/
import Derived.Test.YtmkikigikedjoaaDoorRight
import Derived.Deep.RegionHeld3
namespace Go.Proofs.YtmkikigikedjoaaDoor.Op
open Go.RowKit Go.Proofs.YtmkikigikedjoaaDoorW.PrintWords
set_option linter.unusedVariables false
set_option linter.unusedSimpArgs false

/-- api.Column -/
structure Cn where
  n : ByteArray
  k : Int
  u : Bool
def Cn.cells (x : Cn) : List Value := [.string x.n, .int .i64 x.k, .bool x.u]
def Cn.val (x : Cn) : Value := .agg #[.string x.n, .int .i64 x.k, .bool x.u]
def Cn.z : Cn := ⟨ByteArray.empty, 0, false⟩
def kCn : Kd Cn := Kd.iso (Kd.pair Kd.string (Kd.pair (Kd.int .i64) Kd.bool)) (fun x => (x.n, x.k, x.u))
theorem kCn_open {w : World} {x : Cn} {cs : List Value} (h : kCn.K w x cs) : cs = x.cells := by
  obtain ⟨_, _, rfl, rfl, ⟨_, _, rfl, rfl, rfl⟩⟩ := h
  rfl
def Cn.At (w : World) (p : Addr) (x : Cn) : Prop :=
  p.block < w.heap.size ∧ w.cell? p = some (.string x.n) ∧ w.cell? ⟨p.block, p.off + 1, none⟩ = some (.int .i64 x.k) ∧ w.cell? ⟨p.block, p.off + 2, none⟩ = some (.bool x.u)
theorem kCn_at {w : World} {A : Option Addr} {n : Nat} {xs : List Cn} (h : kCn.C w A n xs) (i : Nat) (hi : i < n) : ∃ ad, A = some ad ∧ Cn.At w (ad.add (i * 3)) (xs.getD i Cn.z) := by
  obtain ⟨ad, c, e, _, hK, hc0⟩ := Kd.C_get h Cn.z i (by omega) (by omega)
  have hc : ∀ j u, c[j]? = some u → w.cell? (ad.add (i * 3 + j)) = some u := hc0
  obtain rfl := kCn_open hK
  rw [show ((i : Int)).toNat = i from by omega] at hc
  exact ⟨ad, e, World.block_lt_of_cell? w _ (hc 0 _ rfl), hc 0 _ rfl, by rw [← add_field _ _ 1 (by omega)]; exact hc 1 _ rfl, by rw [← add_field _ _ 2 (by omega)]; exact hc 2 _ rfl⟩

def fitsV (c : Cn) (x : V) : Bool := rightV x && (x.k == c.k || (x.k == 0 && c.u))

set_option maxHeartbeats 2000000 in
theorem fits_any (c : Cn) (x : V) (w : World) : Calls Tryd.prog 21 #[c.val, x.val] w fun e w' => e = .returned (.bool (fitsV c x)) ∧ Below w.heap.size w w' := by
  have hr := fun w => right_any x w
  have hf : fitsV c x = (rightV x && (x.k == c.k || (x.k == 0 && c.u))) := rfl
  rw [hf]
  generalize rightV x = r at hr ⊢
  clear hf
  obtain ⟨cn, ck, cu⟩ := c
  obtain ⟨k, b, i, s⟩ := x
  simp only
  unfold V.val at hr
  unfold V.val Cn.val
  have HR := Lib.hid hr
  clear hr
  have hB := below_alloc (below_alloc (Below.refl w.heap.size w) (.cells #[.string cn, .int .i64 ck, .bool cu] 28)) (.cells #[.int .i64 k, .bool b, .int .i64 i, .string s] 23)
  have hN := blk_alloc (blk_new w (.cells #[.string cn, .int .i64 ck, .bool cu] 28)) (.cells #[.int .i64 k, .bool b, .int .i64 i, .string s] 23)
  have hM := blk_new (w.alloc (.cells #[.string cn, .int .i64 ck, .bool cu] 28)) (.cells #[.int .i64 k, .bool b, .int .i64 i, .string s] 23)
  rw [World.size_alloc] at hM
  go_enter Tryd.func21, Tryd.ntmps21
  go_wp2_with fail
  refine (HR.out _).mono ?_
  rintro e w1 ⟨rfl, hb⟩
  have hN1 := blk_below hN hb
  have hM1 := blk_below hM hb
  have hw := hB.trans (hb.mono hB.size)
  have c1 : w1.cell? ⟨w.heap.size, 1, none⟩ = some (.int .i64 ck) := (blk_cell hN1 1).trans rfl
  have c2 : w1.cell? ⟨w.heap.size, 2, none⟩ = some (.bool cu) := (blk_cell hN1 2).trans rfl
  have v0 : w1.cell? ⟨w.heap.size + 1, 0, none⟩ = some (.int .i64 k) := (blk_cell hM1 0).trans rfl
  clear hb hB hN hM hN1 hM1
  cases r
  · go_wp2_with fail
    try go_quiet (fail)
    go_wp2
    go_ret
    exact ⟨ret_bool (by simp), by first | exact hw | exact pw_below_drewN hw _⟩
  · by_cases hk : k = ck
    · subst hk
      go_wp2_with fail
      try go_quiet (fail)
      go_wp2
      go_ret
      exact ⟨ret_bool (by simp), by first | exact hw | exact pw_below_drewN hw _⟩
    · have hkb : (k == ck) = false := beq_eq_false_iff_ne.2 hk
      by_cases h0 : k = 0
      · subst h0
        go_wp2_with fail
        try go_quiet (fail)
        go_wp2
        go_ret
        exact ⟨ret_bool (by simp [hkb]), by first | exact hw | exact pw_below_drewN hw _⟩
      · have h0b : (k == 0) = false := beq_eq_false_iff_ne.2 h0
        go_wp2_with fail
        try go_quiet (fail)
        go_wp2
        go_ret
        exact ⟨ret_bool (by simp [hkb, h0b]), by first | exact hw | exact pw_below_drewN hw _⟩
set_option maxHeartbeats 2000000 in
theorem ref_fits (c : Cn) (x : V) (w : World) : Calls Tryd.prog 22 #[c.val, x.val] w fun e w' => e = .returned (.bool (fitsV c x)) ∧ Below w.heap.size w w' := by
  have hr := fun w => ref_right x w
  have hf : fitsV c x = (rightV x && (x.k == c.k || (x.k == 0 && c.u))) := rfl
  rw [hf]
  generalize rightV x = r at hr ⊢
  clear hf
  obtain ⟨cn, ck, cu⟩ := c
  obtain ⟨k, b, i, s⟩ := x
  simp only
  unfold V.val at hr
  unfold V.val Cn.val
  have HR := Lib.hid hr
  clear hr
  have hB := below_alloc (below_alloc (Below.refl w.heap.size w) (.cells #[.string cn, .int .i64 ck, .bool cu] 28)) (.cells #[.int .i64 k, .bool b, .int .i64 i, .string s] 23)
  have hN := blk_alloc (blk_new w (.cells #[.string cn, .int .i64 ck, .bool cu] 28)) (.cells #[.int .i64 k, .bool b, .int .i64 i, .string s] 23)
  have hM := blk_new (w.alloc (.cells #[.string cn, .int .i64 ck, .bool cu] 28)) (.cells #[.int .i64 k, .bool b, .int .i64 i, .string s] 23)
  rw [World.size_alloc] at hM
  go_enter Tryd.func22, Tryd.ntmps22
  go_wp2_with fail
  refine (HR.out _).mono ?_
  rintro e w1 ⟨rfl, hb⟩
  have hN1 := blk_below hN hb
  have hM1 := blk_below hM hb
  have hw := hB.trans (hb.mono hB.size)
  have c1 : w1.cell? ⟨w.heap.size, 1, none⟩ = some (.int .i64 ck) := (blk_cell hN1 1).trans rfl
  have c2 : w1.cell? ⟨w.heap.size, 2, none⟩ = some (.bool cu) := (blk_cell hN1 2).trans rfl
  have v0 : w1.cell? ⟨w.heap.size + 1, 0, none⟩ = some (.int .i64 k) := (blk_cell hM1 0).trans rfl
  clear hb hB hN hM hN1 hM1
  cases r
  · go_wp2_with fail
    try go_quiet (fail)
    go_wp2
    go_ret
    exact ⟨ret_bool (by simp), by first | exact hw | exact pw_below_drewN hw _⟩
  · by_cases hk : k = ck
    · subst hk
      go_wp2_with fail
      try go_quiet (fail)
      go_wp2
      go_ret
      exact ⟨ret_bool (by simp), by first | exact hw | exact pw_below_drewN hw _⟩
    · have hkb : (k == ck) = false := beq_eq_false_iff_ne.2 hk
      by_cases h0 : k = 0
      · subst h0
        go_wp2_with fail
        try go_quiet (fail)
        go_wp2
        go_ret
        exact ⟨ret_bool (by simp [hkb]), by first | exact hw | exact pw_below_drewN hw _⟩
      · have h0b : (k == 0) = false := beq_eq_false_iff_ne.2 h0
        go_wp2_with fail
        try go_quiet (fail)
        go_wp2
        go_ret
        exact ⟨ret_bool (by simp [hkb, h0b]), by first | exact hw | exact pw_below_drewN hw _⟩
end Go.Proofs.YtmkikigikedjoaaDoor.Op
