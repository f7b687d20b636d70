/- (exec.group).told where a count is asked. -/
import Derived.Test.YtghblnldokpceaaTwice
namespace Go.Proofs.Ytghblnldokpceaa.QV
open Go.RowKit Go.Proofs.YtghblnldokpceaaW.PrintWords Go.Proofs.Ytghblnldokpceaa.Seq Go.Shelf Go.Proofs.Ytghblnldokpceaa.Op
set_option linter.unusedVariables false
set_option linter.unusedSimpArgs false

theorem int_any (n : Int) (w : World) : Calls Try.prog 67 #[.int .i64 n] w fun e w' => e = .returned (.agg #[.int .i64 2, .bool false, .int .i64 n, .string ⟨#[]⟩]) ∧ Below w.heap.size w w' := by
  go_enter Try.func67, Try.ntmps67
  go_wp2
  go_returns
  all_goals (first | exact ⟨rfl, below_alloc (Below.refl _ _) _⟩ | skip)

set_option maxRecDepth 100000 in
set_option maxHeartbeats 2000000 in
theorem told_count (KA : Option Addr) (kn kc : Nat) (RA : Option Addr) (xs : List Row) (rc : Nat) (col : Int) (w : World) (hr : kRows.C w RA xs.length xs) (hbd : xs.length * 40 ≤ 140737488355328) :
    Calls Try.prog 45 #[.agg #[.slice KA kn kc, .slice RA xs.length rc], .agg #[.int .i64 0, .int .i64 col]] w fun e w' => e = .returned (.agg #[.int .i64 2, .bool false, .int .i64 xs.length, .string ⟨#[]⟩]) ∧ Below w.heap.size w w' := by
  have hmax := hr.2.1
  go_enter Try.func45, Try.ntmps45
  go_wp2
  obtain ⟨w2, hw2⟩ : ∃ w2, ((w.alloc (.cells #[.slice KA kn kc, .slice RA xs.length rc] 65)).alloc (.cells #[.int .i64 0, .int .i64 col] 48)).alloc (.cells #[.int .i64 0, .bool false, .int .i64 0, .string ⟨#[]⟩] 42) = w2 := ⟨_, rfl⟩
  rw [hw2]
  have hbw : Below w.heap.size w w2 := by rw [← hw2]; exact below_alloc (below_alloc (below_alloc (Below.refl _ _) _) _) _
  have g2 : w2.heap[w.heap.size]? = some (.cells #[.slice KA kn kc, .slice RA xs.length rc] 65 (0, 0)) := by rw [← hw2]; exact blk_alloc (blk_alloc (blk_new _ _) _) _
  have g3 : w2.heap[w.heap.size + 1]? = some (.cells #[.int .i64 0, .int .i64 col] 48 (0, 0)) := by
    have := blk_new (w.alloc (.cells #[.slice KA kn kc, .slice RA xs.length rc] 65)) (.cells #[.int .i64 0, .int .i64 col] 48)
    rw [World.size_alloc] at this
    rw [← hw2]; exact blk_alloc this _
  have g4 : w2.heap[w.heap.size + 1 + 1]? = some (.cells #[.int .i64 0, .bool false, .int .i64 0, .string ⟨#[]⟩] 42 (0, 0)) := by
    have := blk_new ((w.alloc (.cells #[.slice KA kn kc, .slice RA xs.length rc] 65)).alloc (.cells #[.int .i64 0, .int .i64 col] 48)) (.cells #[.int .i64 0, .bool false, .int .i64 0, .string ⟨#[]⟩] 42)
    rw [World.size_alloc, World.size_alloc] at this
    rw [← hw2]; exact this
  clear hw2
  go_loopw [5, 15] (fun l i wr => ∃ k : Nat, k ≤ xs.length ∧ i = .int .i64 k ∧ (∃ lst : Row, lst.length ≤ k ∧ kS.R tS wr w2.heap.size (fun _ => True) l lst) ∧ Below w2.heap.size w2 wr) (fun _ i _ => xs.length - (intOf i).toNat)
  case atStart => exact ⟨0, Nat.zero_le _, rfl, ⟨[], Nat.le_refl _, Kd.R_nil _ _ _ _ _⟩, Below.refl _ _⟩
  case round =>
    obtain ⟨k, hk, rfl, ⟨lst, hll, hl⟩, hB⟩ := hrel
    by_cases hlt : k < xs.length
    · have hr2 := Kd.C_below hr (hbw.trans (hB.mono hbw.size))
      obtain ⟨ad, cs, rfl, _, hK, hcs⟩ := Kd.C_get hr2 [] k (by omega) (by omega)
      obtain ⟨Ao, co, rfl, hleo, hCo⟩ := hK
      have hx : xs.getD (k : Int).toNat [] = xs.getD k [] := rfl
      rw [hx] at hleo hCo hcs
      have hc0 := hcs 0 _ rfl
      have hsz : kRows.sz = 1 := rfl
      rw [hsz, Int.toNat_natCast, Nat.mul_one, Nat.add_zero] at hc0
      generalize xs.getD k [] = x at *
      have ha := at_f x col
      generalize (atS x col).f0 = q0, (atS x col).f1 = q1, (atS x col).f2 = q2, (atS x col).f3 = q3 at ha
      have h31 := blk_cell (blk_below g3 hB) 1
      go_wp2_with fail
      refine (exec_at.calls Ao co x col _ _ _ _ wr hCo hleo ha).mono ?_
      rintro e W4 ⟨rfl, hb4⟩
      have hB4 : Below w2.heap.size w2 W4 := hB.trans (hb4.mono hB.size)
      have h30 := blk_cell (blk_alloc (blk_below g3 hB4) (.cells #[.int .i64 q0, .bool q1, .int .i64 q2, .string q3] 42)) 0
      have hl4 := Kd.R_below hl hb4
      by_cases hz : q0 = 0
      · subst hz
        go_wp2_with fail
        go_roundw
        case rel => exact ⟨k + 1, by omega, by go_num, ⟨lst, by omega, Kd.R_alloc hl4 _⟩, below_alloc hB4 _⟩
        case measure => simp [intOf]; omega
      · go_wp2_with (at_builtin; refine Kd.R_append kS (w0 := w2) w2.heap.size rfl (.tmp 36) (.tmp 38) 31 42 _ 40 rfl Try.underlying31 infoS rfl (by decide) (by decide) _ lst ⟨q0, q1, q2, q3⟩ [.int .i64 q0, .bool q1, .int .i64 q2, .string q3] (fun _ => True) (fun _ => False) rfl (slice_alloc _ _ _ _) (k42_mkM _ _ _ _) (fun _ h => h.elim) (fun _ _ => trivial) (Kd.R_alloc hl4 _) (below_alloc hB4 _) (by have := hB4.size; simp; omega) (by omega) ?_; intro v1 w1 hv1 hB1 hg1 hat1)
        go_roundw
        case rel => exact ⟨k + 1, by omega, by go_num, ⟨_, by simp; omega, hv1⟩, hB1⟩
        case measure => simp [intOf]; omega
    · obtain rfl : k = xs.length := by omega
      have h30 := blk_cell (blk_below g3 hB) 0
      have h21 := blk_cell (blk_below g2 hB) 1
      go_wp2_with fail
      refine (int_any _ _).mono ?_
      rintro e W5 ⟨rfl, hb5⟩
      have hB5 : Below w2.heap.size w2 W5 := hB.trans (hb5.mono hB.size)
      have hx4 := blk_below g4 hB5
      have n0 := blk_cell hx4 0
      have n1 := blk_cell hx4 1
      have n2 := blk_cell hx4 2
      have n3 := blk_cell hx4 3
      have m0 := blk_frozen hx4 0
      have m1 := blk_frozen hx4 1
      have m2 := blk_frozen hx4 2
      have m3 := blk_frozen hx4 3
      go_wp2_with fail
      refine bodyPost_ret (results_cell_row rfl _ _ (w.heap.size + 1 + 1) 42 #[.int .i64 2, .bool false, .int .i64 xs.length, .string ⟨#[]⟩] (0, 0) _ rfl (by have := blk_set (blk_set (blk_set (blk_set hx4 0 (.int .i64 2)) 1 (.bool false)) 2 (.int .i64 xs.length)) 3 (.string ⟨#[]⟩); simpa using this) Try.underlying42 rfl rfl) rfl ?_
      refine ⟨rfl, hbw.trans ((hB5.mono hbw.size).trans ?_)⟩
      have hk : ∀ (V : World) (j : Nat) (u : Value), Kpt (fun i => i = w.heap.size + 1 + 1) V (V.setCell ⟨w.heap.size + 1 + 1, j, none⟩ u) := fun V j u => Kpt.setCell V ⟨w.heap.size + 1 + 1, j, none⟩ u
      exact ((((hk _ _ _).trans (hk _ _ _) (fun _ _ h => h.elim id id)).trans (hk _ _ _) (fun _ _ h => h.elim id id)).trans (hk _ _ _) (fun _ _ h => h.elim id id)).below (by have := hbw.size; have := hB5.size; omega) (fun i _ e => by omega)
end Go.Proofs.Ytghblnldokpceaa.QV
/- The search for a group, of one group without a key. -/
namespace Go.Proofs.Ytghblnldokpceaa.QV
open Go.RowKit Go.Proofs.YtghblnldokpceaaW.PrintWords Go.Proofs.Ytghblnldokpceaa.Seq Go.Shelf Go.Proofs.Ytghblnldokpceaa.Op
set_option linter.unusedVariables false
set_option linter.unusedSimpArgs false

theorem cmpG_any (KA : Option Addr) (key : Row) (kc : Nat) (RA : Option Addr) (rn rc : Nat) (B : Option Addr) (k : Row) (bc : Nat) (w : World) (hk : kS.C w KA key.length key) (hkc : key.length ≤ kc) (hb : kS.C w B k.length k) (hbc : k.length ≤ bc) :
    Calls Try.prog 42 #[.agg #[.slice KA key.length kc, .slice RA rn rc], .slice B k.length bc] w fun e w' => e = .returned (.int .i64 (rowsV (key.map toV) (k.map toV))) ∧ Below w.heap.size w w' := by
  go_enter Try.func42, Try.ntmps42
  go_wp2_with fail
  refine (value_Rows.calls KA kc key B bc k _ _ (Kd.C_alloc hk _) hkc (Kd.C_alloc hb _) hbc rfl).mono ?_
  rintro e w1 ⟨rfl, hb1⟩
  go_wp2_with fail
  go_ret
  exact ⟨rfl, (below_alloc (Below.refl _ _) _).trans (hb1.mono (by simp))⟩

theorem search_one (g cap : Nat) (RA : Option Addr) (rn rc : Nat) (B : Option Addr) (bc : Nat) (w : World) (h0 : w.cell? ⟨g, 0, none⟩ = some (.slice none 0 0)) (h1 : w.cell? ⟨g, 1, none⟩ = some (.slice RA rn rc)) (hB : kS.C w B 0 []) :
    Calls Try.prog 41 #[.slice (some ⟨g, 0, none⟩) 1 cap, .slice B 0 bc, .func (.func 42) #[] #[]] w fun e w' => e = .returned (.tuple #[.int .i64 0, .bool true]) ∧ Below w.heap.size w w' := by
  go_enter Try.func41, Try.ntmps41
  go_wp2_with fail
  go_loopw [9, 10] (fun i j wr => i = .int .i64 0 ∧ (∃ m : Nat, m ≤ 1 ∧ j = .int .i64 m) ∧ Below w.heap.size w wr) (fun _ j _ => (intOf j).toNat)
  case atStart => exact ⟨rfl, ⟨1, by omega, rfl⟩, Below.refl _ _⟩
  case round =>
    obtain ⟨rfl, ⟨m, hm, rfl⟩, hBw⟩ := hrel
    have h0' := pw_cell_below hBw h0
    have h1' := pw_cell_below hBw h1
    rcases (by omega : m = 0 ∨ m = 1) with rfl | rfl
    · go_wp2_with fail
      refine (cmpG_any none [] 0 RA rn rc B [] bc _ (by simp [Kd.C, ReadsRow]) (by simp) (Kd.C_below hB hBw) (by simp)).mono ?_
      rintro e w1 ⟨rfl, hb1⟩
      go_wp2_with fail
      go_ret2
      exact ⟨rfl, hBw.trans (hb1.mono hBw.size)⟩
    · go_wp2_with fail
      refine (cmpG_any none [] 0 RA rn rc B [] bc _ (by simp [Kd.C, ReadsRow]) (by simp) (Kd.C_below hB hBw) (by simp)).mono ?_
      rintro e w1 ⟨rfl, hb1⟩
      have hr0 : rowsV (([] : Row).map toV) (([] : Row).map toV) = 0 := by simp [rowsV]
      rw [hr0]
      go_wp2_with fail
      go_roundw
      case rel => exact ⟨rfl, ⟨0, by omega, by go_num⟩, hBw.trans (hb1.mono hBw.size)⟩
      case measure => simp [intOf]
end Go.Proofs.Ytghblnldokpceaa.QV
