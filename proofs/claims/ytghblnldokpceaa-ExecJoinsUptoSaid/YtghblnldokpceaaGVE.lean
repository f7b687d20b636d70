/- Contracts of layer 2 that were proved by hand, in the print's form. -/
import Derived.Test.YtghblnldokpceaaQVx0
import Derived.Test.YtghblnldokpceaaRowsV
import Derived.Test.YtghblnldokpceaaRefRight
namespace Go.Proofs.Ytghblnldokpceaa.QV
open Go.RowKit Go.Proofs.YtghblnldokpceaaW.PrintWords Go.Proofs.Ytghblnldokpceaa.Op
set_option linter.unusedVariables false
def toV (x : S42) : V := ⟨x.f0, x.f1, x.f2, x.f3⟩
theorem C_map {α β : Type} {d : Kd α} {d' : Kd β} (f : α → β) (hs : d'.sz = d.sz) (hK : ∀ w x cs, d.K w x cs → d'.K w (f x) cs) {w : World} {A : Option Addr} {n : Nat} {xs : List α} (h : d.C w A n xs) : d'.C w A n (xs.map f) := by
  obtain ⟨h1, h2, h3⟩ := h
  refine ⟨by simpa using h1, h2, fun hn => ?_⟩
  obtain ⟨ad, e, hc⟩ := h3 hn
  refine ⟨ad, e, fun j p hj => ?_⟩
  rw [List.getElem?_map] at hj
  obtain ⟨q, hq, rfl⟩ := Option.map_eq_some_iff.1 hj
  obtain ⟨c, k1, k2, k3⟩ := hc j q hq
  exact ⟨c, by rw [hs]; exact k1, hK _ _ _ k2, by rw [hs]; exact k3⟩
theorem C_toV {w : World} {A : Option Addr} {xs : List S42} (h : Kd.C k42 w A xs.length xs) : Kd.C kV w A (xs.map toV).length (xs.map toV) := by
  rw [List.length_map]
  exact C_map toV rfl (fun _ _ _ hk => hk) h

def value_Compare.f (a0_0 : Int) (a0_1 : Bool) (a0_2 : Int) (a0_3 : ByteArray) (a1_0 : Int) (a1_1 : Bool) (a1_2 : Int) (a1_3 : ByteArray) : Option (Int) := some (cmpV ⟨a0_0, a0_1, a0_2, a0_3⟩ ⟨a1_0, a1_1, a1_2, a1_3⟩)
theorem value_Compare.calls (a0_0 : Int) (a0_1 : Bool) (a0_2 : Int) (a0_3 : ByteArray) (a1_0 : Int) (a1_1 : Bool) (a1_2 : Int) (a1_3 : ByteArray) (r : Int) (w : World) (h : value_Compare.f a0_0 a0_1 a0_2 a0_3 a1_0 a1_1 a1_2 a1_3 = some r) :
    Calls Try.prog 34 #[.agg #[.int .i64 a0_0, .bool a0_1, .int .i64 a0_2, .string a0_3], .agg #[.int .i64 a1_0, .bool a1_1, .int .i64 a1_2, .string a1_3]] w fun e w' => e = .returned (.int .i64 r) ∧ Below w.heap.size w w' := by
  obtain rfl := Option.some.inj h
  exact compareV ⟨a0_0, a0_1, a0_2, a0_3⟩ ⟨a1_0, a1_1, a1_2, a1_3⟩ w
def hayloftref02_Compare.f (a0_0 : Int) (a0_1 : Bool) (a0_2 : Int) (a0_3 : ByteArray) (a1_0 : Int) (a1_1 : Bool) (a1_2 : Int) (a1_3 : ByteArray) : Option (Int) := some (cmpV ⟨a0_0, a0_1, a0_2, a0_3⟩ ⟨a1_0, a1_1, a1_2, a1_3⟩)
theorem hayloftref02_Compare.calls (a0_0 : Int) (a0_1 : Bool) (a0_2 : Int) (a0_3 : ByteArray) (a1_0 : Int) (a1_1 : Bool) (a1_2 : Int) (a1_3 : ByteArray) (r : Int) (w : World) (h : hayloftref02_Compare.f a0_0 a0_1 a0_2 a0_3 a1_0 a1_1 a1_2 a1_3 = some r) :
    Calls Try.prog 20 #[.agg #[.int .i64 a0_0, .bool a0_1, .int .i64 a0_2, .string a0_3], .agg #[.int .i64 a1_0, .bool a1_1, .int .i64 a1_2, .string a1_3]] w fun e w' => e = .returned (.int .i64 r) ∧ Below w.heap.size w w' := by
  obtain rfl := Option.some.inj h
  exact ref_compareV ⟨a0_0, a0_1, a0_2, a0_3⟩ ⟨a1_0, a1_1, a1_2, a1_3⟩ w
def hayloftref02_Right.f (a0_0 : Int) (a0_1 : Bool) (a0_2 : Int) (a0_3 : ByteArray) : Option (Bool) := some (rightV ⟨a0_0, a0_1, a0_2, a0_3⟩)
theorem hayloftref02_Right.calls (a0_0 : Int) (a0_1 : Bool) (a0_2 : Int) (a0_3 : ByteArray) (r : Bool) (w : World) (h : hayloftref02_Right.f a0_0 a0_1 a0_2 a0_3 = some r) :
    Calls Try.prog 26 #[.agg #[.int .i64 a0_0, .bool a0_1, .int .i64 a0_2, .string a0_3]] w fun e w' => e = .returned (.bool r) ∧ Below w.heap.size w w' := by
  obtain rfl := Option.some.inj h
  exact ref_right ⟨a0_0, a0_1, a0_2, a0_3⟩ w
def value_Rows.f (l0 : List (S42)) (l1 : List (S42)) : Option (Int) := some (rowsV (l0.map toV) (l1.map toV))
theorem value_Rows.calls (A0 : Option Addr) (c0 : Nat) (l0 : List (S42)) (A1 : Option Addr) (c1 : Nat) (l1 : List (S42)) (r : Int) (w : World) (hr0 : Kd.C k42 w A0 l0.length l0) (hc0 : l0.length ≤ c0) (hr1 : Kd.C k42 w A1 l1.length l1) (hc1 : l1.length ≤ c1) (h : value_Rows.f l0 l1 = some r) :
    Calls Try.prog 43 #[.slice A0 l0.length c0, .slice A1 l1.length c1] w fun e w' => e = .returned (.int .i64 r) ∧ Below w.heap.size w w' := by
  obtain rfl := Option.some.inj h
  have := rows_any A0 (l0.map toV) c0 A1 (l1.map toV) c1 w (C_toV hr0) (by simpa using hc0) (C_toV hr1) (by simpa using hc1)
  rw [List.length_map, List.length_map] at this
  exact this
def hayloftref02_Rows.f (l0 : List (S42)) (l1 : List (S42)) : Option (Int) := some (rowsV (l0.map toV) (l1.map toV))
theorem hayloftref02_Rows.calls (A0 : Option Addr) (c0 : Nat) (l0 : List (S42)) (A1 : Option Addr) (c1 : Nat) (l1 : List (S42)) (r : Int) (w : World) (hr0 : Kd.C k42 w A0 l0.length l0) (hc0 : l0.length ≤ c0) (hr1 : Kd.C k42 w A1 l1.length l1) (hc1 : l1.length ≤ c1) (h : hayloftref02_Rows.f l0 l1 = some r) :
    Calls Try.prog 23 #[.slice A0 l0.length c0, .slice A1 l1.length c1] w fun e w' => e = .returned (.int .i64 r) ∧ Below w.heap.size w w' := by
  obtain rfl := Option.some.inj h
  have := ref_rows A0 (l0.map toV) c0 A1 (l1.map toV) c1 w (C_toV hr0) (by simpa using hc0) (C_toV hr1) (by simpa using hc1)
  rw [List.length_map, List.length_map] at this
  exact this
end Go.Proofs.Ytghblnldokpceaa.QV
