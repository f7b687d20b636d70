/- The order of values and of rows, in plain Lean: it is total; what is alike, of right values, is the same. -/
import Derived.Test.YtghblnldokpceaaKinds
import Derived.Lib.Bytealg
namespace Go.Proofs.Ytghblnldokpceaa.Op
set_option linter.unusedVariables false

def cmpI (a b : Int) : Int := if a < b then -1 else if b < a then 1 else 0
theorem cmpI_range (a b : Int) : -1 ≤ cmpI a b ∧ cmpI a b ≤ 1 := by unfold cmpI; repeat' split <;> omega
theorem cmpI_swap (a b : Int) : cmpI b a = -cmpI a b := by unfold cmpI; repeat' split <;> omega
theorem cmpI_zero (a b : Int) : cmpI a b = 0 ↔ a = b := by unfold cmpI; repeat' split <;> omega
theorem cmpI_neg (a b : Int) : cmpI a b = -1 ↔ a < b := by unfold cmpI; repeat' split <;> omega
theorem cmpI_le (a b : Int) : cmpI a b ≤ 0 ↔ a ≤ b := by unfold cmpI; repeat' split <;> omega
def cmpV (x y : V) : Int := if x.k ≠ y.k then cmpI x.k y.k else if x.k = 1 then (if x.b = y.b then 0 else if y.b then -1 else 1) else if x.k = 2 then cmpI x.i y.i else if x.k = 3 then Lib.compareBytes x.s.data.toList y.s.data.toList else 0
theorem compareBytes_range : ∀ a b : List UInt8, -1 ≤ Lib.compareBytes a b ∧ Lib.compareBytes a b ≤ 1
  | [], [] => by simp [Lib.compareBytes]
  | [], _ :: _ => by simp [Lib.compareBytes]
  | _ :: _, [] => by simp [Lib.compareBytes]
  | x :: r, y :: q => by
    have := compareBytes_range r q
    unfold Lib.compareBytes
    split
    · omega
    · split
      · omega
      · exact this
theorem cmpV_range (x y : V) : -1 ≤ cmpV x y ∧ cmpV x y ≤ 1 := by
  have h1 := cmpI_range x.k y.k
  have h2 := cmpI_range x.i y.i
  have h3 := compareBytes_range x.s.data.toList y.s.data.toList
  unfold cmpV
  repeat' split <;> omega
theorem compareBytes_swap : ∀ a b : List UInt8, Lib.compareBytes b a = -Lib.compareBytes a b
  | [], [] => rfl
  | [], _ :: _ => rfl
  | _ :: _, [] => rfl
  | x :: r, y :: q => by
    have ih := compareBytes_swap r q
    unfold Lib.compareBytes
    by_cases h : x < y
    · have : ¬ y < x := UInt8.lt_asymm h
      rw [if_neg this, if_pos h, if_pos h]; rfl
    · by_cases h' : y < x
      · rw [if_pos h', if_neg h, if_pos h']
      · rw [if_neg h', if_neg h, if_neg h, if_neg h']; exact ih
theorem u8_eq {x y : UInt8} (h : ¬ x < y) (h' : ¬ y < x) : x = y := UInt8.le_antisymm (UInt8.not_lt.1 h') (UInt8.not_lt.1 h)
theorem compareBytes_zero : ∀ a b : List UInt8, Lib.compareBytes a b = 0 ↔ a = b
  | [], [] => by simp [Lib.compareBytes]
  | [], _ :: _ => by simp [Lib.compareBytes]
  | _ :: _, [] => by simp [Lib.compareBytes]
  | x :: r, y :: q => by
    have ih := compareBytes_zero r q
    unfold Lib.compareBytes
    by_cases h : x < y
    · rw [if_pos h]
      refine ⟨fun e => by omega, fun e => ?_⟩
      have : x = y := (List.cons.inj e).1
      subst this
      exact absurd h (UInt8.lt_irrefl x)
    · by_cases h' : y < x
      · rw [if_neg h, if_pos h']
        refine ⟨fun e => by omega, fun e => ?_⟩
        have : x = y := (List.cons.inj e).1
        subst this
        exact absurd h' (UInt8.lt_irrefl x)
      · rw [if_neg h, if_neg h', ih, u8_eq h h']
        simp
theorem compareBytes_trans : ∀ a b c : List UInt8, Lib.compareBytes a b ≤ 0 → Lib.compareBytes b c ≤ 0 → Lib.compareBytes a c ≤ 0
  | [], _, [] => by simp [Lib.compareBytes]
  | [], _, _ :: _ => by simp [Lib.compareBytes]
  | _ :: _, [], _ => by simp [Lib.compareBytes]
  | _ :: _, _ :: _, [] => by simp [Lib.compareBytes]
  | x :: r, y :: q, z :: s => by
    have ih := compareBytes_trans r q s
    unfold Lib.compareBytes
    intro h1 h2
    by_cases a1 : x < y
    · by_cases b1 : y < z
      · rw [if_pos (UInt8.lt_trans a1 b1)]; omega
      · by_cases b2 : z < y
        · rw [if_neg b1, if_pos b2] at h2; omega
        · rw [← u8_eq b1 b2, if_pos a1]; omega
    · by_cases a2 : y < x
      · rw [if_neg a1, if_pos a2] at h1; omega
      · have := u8_eq a1 a2
        subst this
        rw [if_neg a1, if_neg a1] at h1
        by_cases b1 : x < z
        · rw [if_pos b1]; omega
        · by_cases b2 : z < x
          · rw [if_neg b1, if_pos b2] at h2; omega
          · rw [if_neg b1, if_neg b2] at h2 ⊢
            exact ih h1 h2
theorem bytesLess_cmp : ∀ a b : List UInt8, Op.bytesLess a b = decide (Lib.compareBytes a b = -1)
  | [], [] => rfl
  | [], _ :: _ => rfl
  | _ :: _, [] => rfl
  | x :: r, y :: q => by
    have ih := bytesLess_cmp r q
    unfold Lib.compareBytes Op.bytesLess
    by_cases h : x < y
    · simp [h]
    · by_cases h' : y < x
      · have : ¬ x = y := fun e => by subst e; exact h h'
        simp [h, h', this]
      · have := u8_eq h h'
        subst this
        simp [UInt8.lt_irrefl, ih]
theorem cmpV_ne {x y : V} (h : x.k ≠ y.k) : cmpV x y = cmpI x.k y.k := by unfold cmpV; rw [if_pos h]
theorem cmpV_1 {x y : V} (h : x.k = 1) (h' : y.k = 1) : cmpV x y = if x.b = y.b then 0 else if y.b then -1 else 1 := by unfold cmpV; rw [if_neg (by omega), if_pos h]
theorem cmpV_2 {x y : V} (h : x.k = 2) (h' : y.k = 2) : cmpV x y = cmpI x.i y.i := by unfold cmpV; rw [if_neg (by omega), if_neg (by omega), if_pos h]
theorem cmpV_3 {x y : V} (h : x.k = 3) (h' : y.k = 3) : cmpV x y = Lib.compareBytes x.s.data.toList y.s.data.toList := by unfold cmpV; rw [if_neg (by omega), if_neg (by omega), if_neg (by omega), if_pos h]
theorem cmpV_o {x y : V} (h : x.k = y.k) (h1 : x.k ≠ 1) (h2 : x.k ≠ 2) (h3 : x.k ≠ 3) : cmpV x y = 0 := by unfold cmpV; rw [if_neg (by omega), if_neg h1, if_neg h2, if_neg h3]
theorem cmpV_swap (x y : V) : cmpV y x = -cmpV x y := by
  by_cases h : x.k = y.k
  · by_cases h1 : x.k = 1
    · rw [cmpV_1 h1 (by omega), cmpV_1 (by omega) h1]
      cases x.b <;> cases y.b <;> rfl
    · by_cases h2 : x.k = 2
      · rw [cmpV_2 h2 (by omega), cmpV_2 (by omega) h2, cmpI_swap]
      · by_cases h3 : x.k = 3
        · rw [cmpV_3 h3 (by omega), cmpV_3 (by omega) h3, compareBytes_swap]
        · rw [cmpV_o h h1 h2 h3, cmpV_o h.symm (by omega) (by omega) (by omega)]; rfl
  · rw [cmpV_ne h, cmpV_ne (fun e => h e.symm), cmpI_swap]
theorem cmpV_self (x : V) : cmpV x x = 0 := by have := cmpV_swap x x; omega
theorem cmpV_trans (x y z : V) (h1 : cmpV x y ≤ 0) (h2 : cmpV y z ≤ 0) : cmpV x z ≤ 0 := by
  by_cases a : x.k = y.k
  · by_cases b : y.k = z.k
    · by_cases k1 : x.k = 1
      · rw [cmpV_1 k1 (by omega)] at h1 ⊢
        rw [cmpV_1 (by omega) (by omega)] at h2
        revert h1 h2
        cases x.b <;> cases y.b <;> cases z.b <;> simp
      · by_cases k2 : x.k = 2
        · rw [cmpV_2 k2 (by omega), cmpI_le] at h1 ⊢
          rw [cmpV_2 (by omega) (by omega), cmpI_le] at h2
          omega
        · by_cases k3 : x.k = 3
          · rw [cmpV_3 k3 (by omega)] at h1 ⊢
            rw [cmpV_3 (by omega) (by omega)] at h2
            exact compareBytes_trans _ _ _ h1 h2
          · rw [cmpV_o (by omega) k1 k2 k3]; omega
    · rw [cmpV_ne b, cmpI_le] at h2
      rw [cmpV_ne (by omega), cmpI_le]; omega
  · rw [cmpV_ne a, cmpI_le] at h1
    by_cases b : y.k = z.k
    · rw [cmpV_ne (by omega), cmpI_le]; omega
    · rw [cmpV_ne b, cmpI_le] at h2
      rw [cmpV_ne (by omega), cmpI_le]; omega

def lessV (x y : V) : Bool := if x.k ≠ y.k then decide (x.k < y.k) else if x.k = 1 then !x.b && y.b else if x.k = 2 then decide (x.i < y.i) else x.k == 3 && Op.bytesLess x.s.toList y.s.toList
theorem lessV_cmp (x y : V) : lessV x y = decide (cmpV x y = -1) := by
  unfold lessV
  by_cases h : x.k = y.k
  · rw [if_neg (by simpa using h)]
    by_cases h1 : x.k = 1
    · rw [cmpV_1 h1 (by omega), if_pos h1]
      cases x.b <;> cases y.b <;> rfl
    · by_cases h2 : x.k = 2
      · rw [cmpV_2 h2 (by omega), if_neg h1, if_pos h2]; simp [cmpI_neg]
      · by_cases h3 : x.k = 3
        · rw [cmpV_3 h3 (by omega), if_neg h1, if_neg h2, bytesLess_cmp]; simp [h3, Lib.toList_data]
        · rw [cmpV_o h h1 h2 h3, if_neg h1, if_neg h2]; simp [h3]
  · rw [if_pos h, cmpV_ne h]; simp [cmpI_neg]
end Go.Proofs.Ytghblnldokpceaa.Op
