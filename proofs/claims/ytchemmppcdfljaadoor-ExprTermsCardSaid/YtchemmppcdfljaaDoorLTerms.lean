/- ExprTerms: the walk. -/
import Derived.Test.YtchemmppcdfljaaDoorExprAll
namespace Go.Proofs.YtchemmppcdfljaaDoor.Op
open Go.RowKit Go.Proofs.YtchemmppcdfljaaDoorW.PrintWords
set_option linter.unusedVariables false

set_option maxHeartbeats 2000000 in
theorem walkTerms (Al : Option Addr) (l : List T) (cl : Nat) (A : Option Addr) (row : List V) (c : Nat) (w : World) (hl : kT.C w Al l.length l) (hcl : l.length ≤ cl) (hr : kV.C w A row.length row) (hc : row.length ≤ c) (hT : Tab w) :
    Calls Tryd.prog 3 #[.slice Al l.length cl, .slice A row.length c] w fun e w' => e = .returned (.bool true) ∧ Below w.heap.size w w' := by
  have hml := hl.2.1
  have hm := hr.2.1
  go_enter Tryd.func3, Tryd.ntmps3
  go_wp2
  go_loopw [9] (fun i wr => ∃ k : Nat, i = .int .i64 k ∧ k ≤ l.length ∧ Below w.heap.size w wr) (fun i _ => l.length - (intOf i).toNat)
  case atStart => exact ⟨0, rfl, Nat.zero_le _, Below.refl _ _⟩
  case round =>
    obtain ⟨k, rfl, hk, hB⟩ := hrel
    by_cases hlt : k < l.length
    · obtain ⟨ad, rfl, hv⟩ := kT_at (Kd.C_below hl hB) k hlt
      generalize hx : l.getD k T.z = x at hv
      clear hx
      obtain ⟨tc, o, ⟨k', b, i, s⟩⟩ := x
      obtain ⟨hblt, hv0, hv1, hv2, hv3, hv4, hv5⟩ := hv
      simp only at hv0 hv1 hv2 hv3 hv4 hv5
      go_wp2
      have hB0 := below_alloc hB (.cells #[.int .i64 tc, .int .i64 o, .int .i64 k', .bool b, .int .i64 i, .string s] 27)
      have hN0 := blk_new wr (.cells #[.int .i64 tc, .int .i64 o, .int .i64 k', .bool b, .int .i64 i, .string s] 27)
      generalize wr.alloc (.cells #[.int .i64 tc, .int .i64 o, .int .i64 k', .bool b, .int .i64 i, .string s] 27) = W at hB0 hN0 ⊢
      go_region_held3 (fun W' => W'.cell? ⟨wr.heap.size, 0, none⟩ = some (.int .i64 tc) ∧ W'.cell? ⟨wr.heap.size, 1, none⟩ = some (.int .i64 o) ∧ W'.cell? ⟨wr.heap.size, 2, none⟩ = some (.int .i64 k') ∧ W'.cell? ⟨wr.heap.size, 3, none⟩ = some (.bool b) ∧ W'.cell? ⟨wr.heap.size, 4, none⟩ = some (.int .i64 i) ∧ W'.cell? ⟨wr.heap.size, 5, none⟩ = some (.string s) ∧ Below w.heap.size w W') ((first | exact start_c6 hB0 hN0 | exact keep_c6 (by assumption) (by assumption))) (first | ((go_at_call 9; refine (term_any ⟨tc, o, ⟨k', b, i, s⟩⟩ A row c _ (Kd.C_below hr ?_) hc (hT.below ?_)).mono ?_; exact below_c6 (by assumption); exact below_c6 (by assumption); rintro e w1 ⟨rfl, hb⟩)) | ((go_at_call 10; refine (ref_term ⟨tc, o, ⟨k', b, i, s⟩⟩ A row c _ (Kd.C_below hr ?_) hc).mono ?_; exact below_c6 (by assumption); rintro e w1 ⟨rfl, hb⟩)))
      go_wp2
      go_roundw
      case rel => exact ⟨k + 1, by go_num, by omega, below_c6 (by assumption)⟩
      case measure => simp [intOf]; omega
    · obtain rfl : k = l.length := by omega
      go_wp2_with fail
      refine (alive_any _ (hT.below hB)).mono ?_
      rintro e w1 ⟨rfl, hb1⟩
      have hB1 := hB.trans (hb1.mono hB.size)
      go_wp2_with fail
      refine (all_any Al l cl A row c _ (Kd.C_below hl hB1) hcl (Kd.C_below hr hB1) hc (hT.below hB1)).mono ?_
      rintro e w2 ⟨rfl, hb2⟩
      have hB2 := hB1.trans (hb2.mono hB1.size)
      go_wp2_with fail
      refine (ref_all Al l cl A row c _ (Kd.C_below hl hB2) hcl (Kd.C_below hr hB2) hc).mono ?_
      rintro e w3 ⟨rfl, hb3⟩
      have hB3 := hB2.trans (hb3.mono hB2.size)
      go_wp2
      go_ret
      exact ⟨ret_bool (by simp), hB3⟩
end Go.Proofs.YtchemmppcdfljaaDoor.Op
