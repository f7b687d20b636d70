/- slices.Values of a slice of rows: the iterator hands out the rows, one behind the other. -/
import Derived.Test.YtghblnldokpceaaClone
import Derived.Test.YtghblnldokpceaaRound
import Derived.Shelf.Abstract
import Derived.OwnWalkIn
import Derived.TacticsInMore
import Derived.LoopNIn
import Derived.LoopIn
namespace Go.Proofs.Ytghblnldokpceaa.QV
open Go.RowKit Go.Proofs.YtghblnldokpceaaW.PrintWords Go.Proofs.Ytghblnldokpceaa.Seq Go.Shelf
set_option linter.unusedVariables false
set_option linter.unusedSimpArgs false
attribute [local go_sem] Oper.semAt_some

abbrev Row : Type := List S42
abbrev kRows : Kd Row := Kd.slice 42 k42
abbrev tRow : Nat := 31

theorem values_any (sv : Value) (hs : ∃ A n c, sv = .slice A n c) (w : World) :
    Calls Try.prog 13 #[sv] w fun e w' => e = .returned (.func (.func 36) #[] #[.pointer (some ⟨w.heap.size, 0, none⟩)]) ∧ w' = w.alloc (.cells #[sv] 22) := by
  obtain ⟨A, n, c, rfl⟩ := hs
  go_enter Try.func13, Try.ntmps13
  go_wp2
  go_ret
  exact ⟨rfl, rfl⟩

/-- 'seq == nil', of an iterator that is none. -/
theorem run_equalIn_func_nil {P : Program} {t : TypeId} {ps rs : Array TypeId} {b : Bool} (ht : P.underlying t = some (.func ps rs b)) (d : Nat) (fn : Fn) (lb : Array Value) (w : World) : (Op.equalIn (d + 1) t (.func fn #[] lb) .nilFunc).run P w = .ok false w := by
  simp [Op.equalIn, run_underlying ht]
theorem run_func_nil {P : Program} {t : TypeId} {ps rs : Array TypeId} {b : Bool} (ht : P.underlying t = some (.func ps rs b)) (fn : Fn) (lb : Array Value) (w : World) : (binOp .eql t (.func fn #[] lb) .nilFunc).run P w = .ok (.bool false) w := by
  have h : (Op.equal t (.func fn #[] lb) .nilFunc).run P w = .ok false w := run_equalIn_func_nil ht 9999 fn lb w
  simp [binOp, h]
/-- A row that was there when the iterator was made. -/
def RdOld (w0 : World) (A : World) (N : Nat → Prop) (x : Row) (vs : Array Value) : Prop :=
  (∀ i, ¬ N i) ∧ Below w0.heap.size w0 A ∧ ∃ Ad c, vs = #[.slice Ad x.length c] ∧ x.length ≤ c ∧ kS.C w0 Ad x.length x
theorem RdOld.kept {w0 A B : World} {N : Nat → Prop} {x : Row} {vs : Array Value} (h : RdOld w0 A N x vs) (hk : Kpt (fun i => w0.heap.size ≤ i ∧ ¬ N i) A B) : RdOld w0 B N x vs :=
  ⟨h.1, h.2.1.trans (hk.below h.2.1.size (fun i _ k => k.1)), h.2.2⟩
theorem RS_ok {w : World} {base : Nat} {ok ok' : Nat → Prop} {v : Value} {x : Row} (h : kS.R tS w base ok v x) (h' : ∀ k, v.ownBlock = some k → ok' k) : kS.R tS w base ok' v x :=
  ⟨h', h.2.imp_ (fun _ _ hp => kS_KM _ _ (kS.K_of_M hp))⟩
/-- A row of the consumer's own: made since. -/
def RdNew (w0 : World) (A : World) (N : Nat → Prop) (x : Row) (vs : Array Value) : Prop :=
  ∃ v, vs = #[v] ∧ kS.R tS A w0.heap.size N v x ∧ ∀ i, N i → i < A.heap.size
theorem RdNew.kept {w0 A B : World} {N : Nat → Prop} {x : Row} {vs : Array Value} (h : RdNew w0 A N x vs) (hk : Kpt (fun i => w0.heap.size ≤ i ∧ ¬ N i) A B) : RdNew w0 B N x vs := by
  obtain ⟨v, rfl, hr, hN⟩ := h
  exact ⟨v, rfl, Kd.R_move hr (fun k hk' => hk.block k (hN k hk') (fun z => z.2 hk')), fun i hi => Nat.lt_of_lt_of_le (hN i hi) hk.size⟩
theorem take_snoc' {α : Type} (z : α) (l : List α) (i : Nat) (h : i < l.length) : l.take i ++ [l.getD i z] = l.take (i + 1) := by
  rw [List.take_succ_eq_append_getElem h, List.getD_eq_getElem?_getD, List.getElem?_eq_getElem h]; rfl

set_option maxRecDepth 100000 in
set_option maxHeartbeats 2000000 in
theorem values_seq (A : Option Addr) (xs : List Row) (c B : Nat) (w : World) (hB : B < w.heap.size) (hcell : w.cell? ⟨B, 0, none⟩ = some (.slice A xs.length c)) (hr : kRows.C w A xs.length xs) :
    SeqOf Try.prog 36 #[.pointer (some ⟨B, 0, none⟩)] (RdOld w) xs w := by
  intro l J Jx W M hW hM hJ hJx hY h0
  have hmax := hr.2.1
  have hcW : W.cell? ⟨B, 0, none⟩ = some (.slice A xs.length c) := (hW.cell (p := ⟨B, 0, none⟩) hB).trans hcell
  refine (callsIn_wide (n := 0)).1 (callsIn_of_wp Try.func36 rfl trivial ?_ rfl)
  simp only [Try.ntmps36, List.size_toArray, List.length_cons, List.length_nil, Nat.reduceAdd, Nat.reduceSub, Array.replicate_succ, Array.replicate_zero, List.push_toArray, List.append_toArray, List.nil_append, List.cons_append]
  gi_wp2
  gi_loopw [7] (fun i wr => ∃ k : Nat, k ≤ xs.length ∧ i = .int .i64 k ∧ ∃ Mk : Nat → Prop, J (xs.take k) Mk wr ∧ (∀ i, Mk i → (M i ∨ W.heap.size ≤ i) ∧ i < wr.heap.size) ∧ Kpt M W wr)
    (fun i _ => xs.length - (intOf i).toNat)
  case atStart => exact ⟨0, Nat.zero_le _, rfl, M, by simpa using h0, fun i hi => ⟨.inl hi, (hM i hi).2⟩, Kpt.refl _ _⟩
  case round =>
    obtain ⟨k, hk, rfl, Mk, hJk, hMk, hkp⟩ := hrel
    have hBr : Below w.heap.size w wr := hW.trans (hkp.below hW.size (fun i _ h => (hM i h).1))
    by_cases hlt : k < xs.length
    · obtain ⟨ad, cs, rfl, _, hK, hcs⟩ := Kd.C_get hr [] k (by omega) (by omega)
      obtain ⟨Ad, cp, rfl, hle, hC⟩ := hK
      have hx : xs.getD (k : Int).toNat [] = xs.getD k [] := rfl
      rw [hx] at hle hC hcs
      have hc0 := pw_cell_below hBr (hcs 0 _ rfl)
      have hsz : kRows.sz = 1 := rfl
      rw [hsz, Int.toNat_natCast, Nat.mul_one, Nat.add_zero] at hc0
      have hts := take_snoc' ([] : Row) xs k hlt
      have hYk := hY (xs.take k) (xs.getD k []) #[.slice Ad (xs.getD k []).length cp] (fun _ => False) wr Mk hJk (by rw [hts]; exact List.take_prefix _ _) ⟨fun _ h => h, hBr, Ad, cp, rfl, hle, hC⟩
        (fun i hi => ⟨by rcases (hMk i hi).1 with h | h; exact (hM i h).1; exact Nat.le_trans hW.size h, (hMk i hi).2⟩) (fun i h => h.elim) hkp.size
      rw [hts] at hYk
      have HT := Lib.hid hts
      clear hts
      generalize xs.getD k [] = x at *
      obtain ⟨fn, tmps, assign, body, hy, hR⟩ := hYk
      gi_wp2
      refine ⟨rfl, hR.mono ?_⟩
      rintro e W3 ⟨M3, hM3, hk3, (⟨rfl, hJ3⟩ | ⟨rfl, hJ3⟩)⟩
      · have hK3 : Kpt M W W3 := hkp.trans hk3 (fun i hi h => by
          rcases h with h | h | h
          · exact h
          · rcases (hMk i h).1 with z | z
            · exact z
            · omega
          · exact h.elim)
        have hMM : ∀ i, M3 i → (M i ∨ W.heap.size ≤ i) ∧ i < W3.heap.size := fun i hi => by
          refine ⟨?_, (hM3 i hi).2⟩
          rcases (hM3 i hi).1 with h | h | h
          · exact (hMk i h).1
          · exact h.elim
          · exact .inr (Nat.le_trans hkp.size h)
        gi_wp2
        go_roundw
        case rel => exact ⟨k + 1, by omega, by go_num, M3, hJ3, hMM, hK3⟩
        case measure => simp [intOf]; omega
      · have hK3 : Kpt M W W3 := hkp.trans hk3 (fun i hi h => by
          rcases h with h | h | h
          · exact h
          · rcases (hMk i h).1 with z | z
            · exact z
            · omega
          · exact h.elim)
        have hMM : ∀ i, M3 i → (M i ∨ W.heap.size ≤ i) ∧ i < W3.heap.size := fun i hi => by
          refine ⟨?_, (hM3 i hi).2⟩
          rcases (hM3 i hi).1 with h | h | h
          · exact (hMk i h).1
          · exact h.elim
          · exact .inr (Nat.le_trans hkp.size h)
        gi_wp2
        refine bodyPost_ret (results_none rfl _ _ _) rfl ?_
        exact ⟨⟨_, rfl⟩, M3, hMM, hK3, .inr ⟨_, List.take_prefix _ _, hJ3⟩⟩
    · obtain rfl : k = xs.length := by omega
      gi_wp2
      go_end0
      rw [List.take_length] at hJk
      exact ⟨⟨_, rfl⟩, Mk, hMk, hkp, .inl hJk⟩
end Go.Proofs.Ytghblnldokpceaa.QV
