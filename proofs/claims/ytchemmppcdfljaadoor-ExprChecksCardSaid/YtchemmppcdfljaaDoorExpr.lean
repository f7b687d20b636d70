/- What the functions of package expr, and the reference's, tell of terms. -/
import Derived.Test.YtchemmppcdfljaaDoorValue
import Derived.Deep.QuietTactic
import Derived.BigQuiet
import Derived.BigRegion
import Derived.Lib.Hide
namespace Go.Proofs.YtchemmppcdfljaaDoor.Op
open Go.RowKit Go.Proofs.YtchemmppcdfljaaDoorW.PrintWords
set_option linter.unusedVariables false

/-- The program's table: of each term, for below, like, above, whether it is true. -/
def tabL : List Bool := [false, true, false, true, false, true, true, false, false, true, true, false, false, false, true, false, true, true]
def Tab (w : World) : Prop := 0 < w.heap.size ∧ ∀ i, i < 18 → w.cell? ⟨0, i, none⟩ = some (.bool (tabL.getD i false))
theorem Tab.below {w w' : World} (h : Tab w) (hb : Below w.heap.size w w') : Tab w' := ⟨by have := hb.size; have := h.1; omega, fun i hi => (hb.cell (p := ⟨0, i, none⟩) h.1).trans (h.2 i hi)⟩

theorem full_any (is : Bool) (g h : Nat) (vk tk : Int) (w : World) (hg : w.cell? ⟨g, 0, none⟩ = some (.int .i64 vk)) (hh : w.cell? ⟨h, 2, none⟩ = some (.int .i64 tk)) :
    Calls Tryd.prog 21 #[.bool is, .pointer (some ⟨g, 0, none⟩), .pointer (some ⟨h, 0, none⟩)] w fun e w' => e = .returned (.bool (is && (vk != 0 && tk != 0))) ∧ w = w' := by
  go_enter Tryd.func21, Tryd.ntmps21
  go_wp2
  all_goals go_ret
  all_goals refine ⟨ret_bool ?_, rfl⟩
  all_goals simp_all

/-- Is a term true of a row? -/
def termB (t : T) (row : List V) : Bool :=
  if 0 ≤ t.c ∧ t.c < row.length then
    if t.o = 6 then (row.getD t.c.toNat V.z).k == 0 else if t.o = 7 then (row.getD t.c.toNat V.z).k != 0
    else if 0 ≤ t.o ∧ t.o ≤ 5 then tabL.getD (t.o.toNat * 3 + (cmpV (row.getD t.c.toNat V.z) t.v + 1).toNat) false && ((row.getD t.c.toNat V.z).k != 0 && t.v.k != 0) else false
  else false

theorem termB_in (t : T) (row : List V) (h : 0 ≤ t.c ∧ t.c < row.length) : termB t row =
    if t.o = 6 then (row.getD t.c.toNat V.z).k == 0 else if t.o = 7 then (row.getD t.c.toNat V.z).k != 0
    else if 0 ≤ t.o ∧ t.o ≤ 5 then tabL.getD (t.o.toNat * 3 + (cmpV (row.getD t.c.toNat V.z) t.v + 1).toNat) false && ((row.getD t.c.toNat V.z).k != 0 && t.v.k != 0) else false := by
  unfold termB; rw [if_pos h]
theorem termB_out (t : T) (row : List V) (h : ¬ (0 ≤ t.c ∧ t.c < row.length)) : termB t row = false := by
  unfold termB; rw [if_neg h]

set_option maxHeartbeats 1000000 in
theorem term_any (t : T) (A : Option Addr) (row : List V) (c : Nat) (w : World) (hr : kV.C w A row.length row) (hc : row.length ≤ c) (hT : Tab w) :
    Calls Tryd.prog 9 #[t.val, .slice A row.length c] w fun e w' => e = .returned (.bool (termB t row)) ∧ Below w.heap.size w w' := by
  obtain ⟨tc, o, k, b, i, s⟩ := t
  have hm := hr.2.1
  unfold T.val
  by_cases h0 : 0 ≤ tc ∧ tc < row.length
  · have HF := Lib.hid (termB_in ⟨tc, o, ⟨k, b, i, s⟩⟩ row h0)
    obtain ⟨h0, h1⟩ := h0
    obtain ⟨ad, rfl, hv⟩ := kV_at hr tc.toNat (by omega)
    generalize hx : row.getD tc.toNat V.z = x at hv HF
    obtain ⟨vk, vb, vi, vs⟩ := x
    obtain ⟨hlt, hv0, hv1, hv2, hv3⟩ := hv
    simp only at hv0 hv1 hv2 hv3 HF
    clear hx
    have hcr := cmpV_range ⟨vk, vb, vi, vs⟩ ⟨k, b, i, s⟩
    generalize hn : cmpV ⟨vk, vb, vi, vs⟩ ⟨k, b, i, s⟩ = n at HF hcr
    have HN := Lib.hid hn
    clear hn
    obtain ⟨hn0, hn1⟩ := hcr
    obtain ⟨hz, hT⟩ := hT
    have hTc := hT (o.toNat * 3 + (n + 1).toNat)
    generalize tabL.getD (o.toNat * 3 + (n + 1).toNat) false = B at HF hTc
    clear hT
    by_cases ho : 0 ≤ o ∧ o ≤ 5
    · obtain ⟨ho0, ho1⟩ := ho
      have hT := hTc (by omega)
      clear hTc
      have HF := HF.out
      rw [if_neg (by omega), if_neg (by omega), if_pos ⟨ho0, ho1⟩] at HF
      have HF := Lib.hid HF
      go_enter Tryd.func9, Tryd.ntmps9
      go_wp2_with fail
      refine (compareV ⟨vk, vb, vi, vs⟩ ⟨k, b, i, s⟩ _).mono ?_
      rintro e w1 ⟨rfl, hb⟩
      obtain ⟨hbc, hbf⟩ := bcell hb
      rw [HN.out]
      go_wp2_with (go_at_call 21; refine (full_any _ _ _ vk k _ (by go_simp) (by go_simp)).mono ?_; rintro e w' ⟨rfl, rfl⟩)
      go_ret
      exact ⟨ret_bool HF.out, ((Below.refl _ _).alloc (Nat.le_refl _) _).alloc (by simp) _ |>.trans (hb.mono (by simp; omega))⟩
    · clear hTc
      by_cases h6 : o = 6
      · subst h6
        have HF := HF.out
        rw [if_pos rfl] at HF
        have HF := Lib.hid HF
        go_enter Tryd.func9, Tryd.ntmps9
        go_wp2_with fail
        refine (compareV ⟨vk, vb, vi, vs⟩ ⟨k, b, i, s⟩ _).mono ?_
        rintro e w1 ⟨rfl, hb⟩
        obtain ⟨hbc, hbf⟩ := bcell hb
        go_wp2
        go_ret
        exact ⟨ret_bool HF.out, ((Below.refl _ _).alloc (Nat.le_refl _) _).alloc (by simp) _ |>.trans (hb.mono (by simp; omega))⟩
      · by_cases h7 : o = 7
        · subst h7
          have HF := HF.out
          rw [if_neg (by omega), if_pos rfl] at HF
          have HF := Lib.hid HF
          go_enter Tryd.func9, Tryd.ntmps9
          go_wp2_with fail
          refine (compareV ⟨vk, vb, vi, vs⟩ ⟨k, b, i, s⟩ _).mono ?_
          rintro e w1 ⟨rfl, hb⟩
          obtain ⟨hbc, hbf⟩ := bcell hb
          go_wp2
          go_ret
          exact ⟨ret_bool HF.out, ((Below.refl _ _).alloc (Nat.le_refl _) _).alloc (by simp) _ |>.trans (hb.mono (by simp; omega))⟩
        · have HF := HF.out
          rw [if_neg h6, if_neg h7, if_neg ho] at HF
          have HF := Lib.hid HF
          have h6b : (o == 6) = false := beq_eq_false_iff_ne.2 h6
          have h7b : (o == 7) = false := beq_eq_false_iff_ne.2 h7
          by_cases hneg : o < 0
          all_goals
            go_enter Tryd.func9, Tryd.ntmps9
            go_wp2_with fail
            refine (compareV ⟨vk, vb, vi, vs⟩ ⟨k, b, i, s⟩ _).mono ?_
            rintro e w1 ⟨rfl, hb⟩
            obtain ⟨hbc, hbf⟩ := bcell hb
            go_wp2
            go_ret
            exact ⟨ret_bool HF.out, ((Below.refl _ _).alloc (Nat.le_refl _) _).alloc (by simp) _ |>.trans (hb.mono (by simp; omega))⟩
  · have HF := Lib.hid (termB_out ⟨tc, o, ⟨k, b, i, s⟩⟩ row h0)
    by_cases hneg : tc < 0
    all_goals
      go_enter Tryd.func9, Tryd.ntmps9
      go_wp2
      go_ret
      exact ⟨ret_bool HF.out, (Below.refl _ _).alloc (Nat.le_refl _) _⟩

end Go.Proofs.YtchemmppcdfljaaDoor.Op
