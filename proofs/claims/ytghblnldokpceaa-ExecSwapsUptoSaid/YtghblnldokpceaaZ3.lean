/- The parts Told, Group1, RoundW, GroupF, AliveX, LSwaps, LSwapsW of this proof, one behind the other. -/
import Derived.Test.YtghblnldokpceaaZ2
import Derived.OrdersHeld
import Derived.OrdersIn
import Derived.TacticsIn
import Derived.RangeFuncCalls
import Derived.Deep.RegionHeld
import Derived.Deep.RegionHeld3
/- (exec.group).told where a count is asked. -/
namespace Go.Proofs.Ytghblnldokpceaa.QV
open Go.RowKit Go.Proofs.YtghblnldokpceaaW.PrintWords Go.Proofs.Ytghblnldokpceaa.Seq Go.Shelf Go.Proofs.Ytghblnldokpceaa.Op
set_option linter.unusedVariables false
set_option linter.unusedSimpArgs false

theorem int_any (n : Int) (w : World) : Calls Try.prog 67 #[.int .i64 n] w fun e w' => e = .returned (.agg #[.int .i64 2, .bool false, .int .i64 n, .string ⟨#[]⟩]) ∧ Below w.heap.size w w' := by
  go_enter Try.func67, Try.ntmps67
  go_wp2
  go_returns
  all_goals (first | exact ⟨rfl, below_alloc (Below.refl _ _) _⟩ | skip)

set_option maxRecDepth 100000 in
set_option maxHeartbeats 2000000 in
theorem told_count (KA : Option Addr) (kn kc : Nat) (RA : Option Addr) (xs : List Row) (rc : Nat) (col : Int) (w : World) (hr : kRows.C w RA xs.length xs) (hbd : xs.length * 40 ≤ 140737488355328) :
    Calls Try.prog 45 #[.agg #[.slice KA kn kc, .slice RA xs.length rc], .agg #[.int .i64 0, .int .i64 col]] w fun e w' => e = .returned (.agg #[.int .i64 2, .bool false, .int .i64 xs.length, .string ⟨#[]⟩]) ∧ Below w.heap.size w w' := by
  have hmax := hr.2.1
  go_enter Try.func45, Try.ntmps45
  go_wp2
  obtain ⟨w2, hw2⟩ : ∃ w2, ((w.alloc (.cells #[.slice KA kn kc, .slice RA xs.length rc] 65)).alloc (.cells #[.int .i64 0, .int .i64 col] 48)).alloc (.cells #[.int .i64 0, .bool false, .int .i64 0, .string ⟨#[]⟩] 42) = w2 := ⟨_, rfl⟩
  rw [hw2]
  have hbw : Below w.heap.size w w2 := by rw [← hw2]; exact below_alloc (below_alloc (below_alloc (Below.refl _ _) _) _) _
  have g2 : w2.heap[w.heap.size]? = some (.cells #[.slice KA kn kc, .slice RA xs.length rc] 65 (0, 0)) := by rw [← hw2]; exact blk_alloc (blk_alloc (blk_new _ _) _) _
  have g3 : w2.heap[w.heap.size + 1]? = some (.cells #[.int .i64 0, .int .i64 col] 48 (0, 0)) := by
    have := blk_new (w.alloc (.cells #[.slice KA kn kc, .slice RA xs.length rc] 65)) (.cells #[.int .i64 0, .int .i64 col] 48)
    rw [World.size_alloc] at this
    rw [← hw2]; exact blk_alloc this _
  have g4 : w2.heap[w.heap.size + 1 + 1]? = some (.cells #[.int .i64 0, .bool false, .int .i64 0, .string ⟨#[]⟩] 42 (0, 0)) := by
    have := blk_new ((w.alloc (.cells #[.slice KA kn kc, .slice RA xs.length rc] 65)).alloc (.cells #[.int .i64 0, .int .i64 col] 48)) (.cells #[.int .i64 0, .bool false, .int .i64 0, .string ⟨#[]⟩] 42)
    rw [World.size_alloc, World.size_alloc] at this
    rw [← hw2]; exact this
  clear hw2
  go_loopw [5, 15] (fun l i wr => ∃ k : Nat, k ≤ xs.length ∧ i = .int .i64 k ∧ (∃ lst : Row, lst.length ≤ k ∧ kS.R tS wr w2.heap.size (fun _ => True) l lst) ∧ Below w2.heap.size w2 wr) (fun _ i _ => xs.length - (intOf i).toNat)
  case atStart => exact ⟨0, Nat.zero_le _, rfl, ⟨[], Nat.le_refl _, Kd.R_nil _ _ _ _ _⟩, Below.refl _ _⟩
  case round =>
    obtain ⟨k, hk, rfl, ⟨lst, hll, hl⟩, hB⟩ := hrel
    by_cases hlt : k < xs.length
    · have hr2 := Kd.C_below hr (hbw.trans (hB.mono hbw.size))
      obtain ⟨ad, cs, rfl, _, hK, hcs⟩ := Kd.C_get hr2 [] k (by omega) (by omega)
      obtain ⟨Ao, co, rfl, hleo, hCo⟩ := hK
      have hx : xs.getD (k : Int).toNat [] = xs.getD k [] := rfl
      rw [hx] at hleo hCo hcs
      have hc0 := hcs 0 _ rfl
      have hsz : kRows.sz = 1 := rfl
      rw [hsz, Int.toNat_natCast, Nat.mul_one, Nat.add_zero] at hc0
      generalize xs.getD k [] = x at *
      have ha := at_f x col
      generalize (atS x col).f0 = q0, (atS x col).f1 = q1, (atS x col).f2 = q2, (atS x col).f3 = q3 at ha
      have h31 := blk_cell (blk_below g3 hB) 1
      go_wp2_with fail
      refine (exec_at.calls Ao co x col _ _ _ _ wr hCo hleo ha).mono ?_
      rintro e W4 ⟨rfl, hb4⟩
      have hB4 : Below w2.heap.size w2 W4 := hB.trans (hb4.mono hB.size)
      have h30 := blk_cell (blk_alloc (blk_below g3 hB4) (.cells #[.int .i64 q0, .bool q1, .int .i64 q2, .string q3] 42)) 0
      have hl4 := Kd.R_below hl hb4
      by_cases hz : q0 = 0
      · subst hz
        go_wp2_with fail
        go_roundw
        case rel => exact ⟨k + 1, by omega, by go_num, ⟨lst, by omega, Kd.R_alloc hl4 _⟩, below_alloc hB4 _⟩
        case measure => simp [intOf]; omega
      · go_wp2_with (at_builtin; refine Kd.R_append kS (w0 := w2) w2.heap.size rfl (.tmp 36) (.tmp 38) 31 42 _ 40 rfl Try.underlying31 infoS rfl (by decide) (by decide) _ lst ⟨q0, q1, q2, q3⟩ [.int .i64 q0, .bool q1, .int .i64 q2, .string q3] (fun _ => True) (fun _ => False) rfl (slice_alloc _ _ _ _) (k42_mkM _ _ _ _) (fun _ h => h.elim) (fun _ _ => trivial) (Kd.R_alloc hl4 _) (below_alloc hB4 _) (by have := hB4.size; simp; omega) (by omega) ?_; intro v1 w1 hv1 hB1 hg1 hat1)
        go_roundw
        case rel => exact ⟨k + 1, by omega, by go_num, ⟨_, by simp; omega, hv1⟩, hB1⟩
        case measure => simp [intOf]; omega
    · obtain rfl : k = xs.length := by omega
      have h30 := blk_cell (blk_below g3 hB) 0
      have h21 := blk_cell (blk_below g2 hB) 1
      go_wp2_with fail
      refine (int_any _ _).mono ?_
      rintro e W5 ⟨rfl, hb5⟩
      have hB5 : Below w2.heap.size w2 W5 := hB.trans (hb5.mono hB.size)
      have hx4 := blk_below g4 hB5
      have n0 := blk_cell hx4 0
      have n1 := blk_cell hx4 1
      have n2 := blk_cell hx4 2
      have n3 := blk_cell hx4 3
      have m0 := blk_frozen hx4 0
      have m1 := blk_frozen hx4 1
      have m2 := blk_frozen hx4 2
      have m3 := blk_frozen hx4 3
      go_wp2_with fail
      refine bodyPost_ret (results_cell_row rfl _ _ (w.heap.size + 1 + 1) 42 #[.int .i64 2, .bool false, .int .i64 xs.length, .string ⟨#[]⟩] (0, 0) _ rfl (by have := blk_set (blk_set (blk_set (blk_set hx4 0 (.int .i64 2)) 1 (.bool false)) 2 (.int .i64 xs.length)) 3 (.string ⟨#[]⟩); simpa using this) Try.underlying42 rfl rfl) rfl ?_
      refine ⟨rfl, hbw.trans ((hB5.mono hbw.size).trans ?_)⟩
      have hk : ∀ (V : World) (j : Nat) (u : Value), Kpt (fun i => i = w.heap.size + 1 + 1) V (V.setCell ⟨w.heap.size + 1 + 1, j, none⟩ u) := fun V j u => Kpt.setCell V ⟨w.heap.size + 1 + 1, j, none⟩ u
      exact ((((hk _ _ _).trans (hk _ _ _) (fun _ _ h => h.elim id id)).trans (hk _ _ _) (fun _ _ h => h.elim id id)).trans (hk _ _ _) (fun _ _ h => h.elim id id)).below (by have := hbw.size; have := hB5.size; omega) (fun i _ e => by omega)
end Go.Proofs.Ytghblnldokpceaa.QV
/- The search for a group, of one group without a key. -/
namespace Go.Proofs.Ytghblnldokpceaa.QV
open Go.RowKit Go.Proofs.YtghblnldokpceaaW.PrintWords Go.Proofs.Ytghblnldokpceaa.Seq Go.Shelf Go.Proofs.Ytghblnldokpceaa.Op
set_option linter.unusedVariables false
set_option linter.unusedSimpArgs false

theorem cmpG_any (KA : Option Addr) (key : Row) (kc : Nat) (RA : Option Addr) (rn rc : Nat) (B : Option Addr) (k : Row) (bc : Nat) (w : World) (hk : kS.C w KA key.length key) (hkc : key.length ≤ kc) (hb : kS.C w B k.length k) (hbc : k.length ≤ bc) :
    Calls Try.prog 42 #[.agg #[.slice KA key.length kc, .slice RA rn rc], .slice B k.length bc] w fun e w' => e = .returned (.int .i64 (rowsV (key.map toV) (k.map toV))) ∧ Below w.heap.size w w' := by
  go_enter Try.func42, Try.ntmps42
  go_wp2_with fail
  refine (value_Rows.calls KA kc key B bc k _ _ (Kd.C_alloc hk _) hkc (Kd.C_alloc hb _) hbc rfl).mono ?_
  rintro e w1 ⟨rfl, hb1⟩
  go_wp2_with fail
  go_ret
  exact ⟨rfl, (below_alloc (Below.refl _ _) _).trans (hb1.mono (by simp))⟩

theorem search_one (g cap : Nat) (RA : Option Addr) (rn rc : Nat) (B : Option Addr) (bc : Nat) (w : World) (h0 : w.cell? ⟨g, 0, none⟩ = some (.slice none 0 0)) (h1 : w.cell? ⟨g, 1, none⟩ = some (.slice RA rn rc)) (hB : kS.C w B 0 []) :
    Calls Try.prog 41 #[.slice (some ⟨g, 0, none⟩) 1 cap, .slice B 0 bc, .func (.func 42) #[] #[]] w fun e w' => e = .returned (.tuple #[.int .i64 0, .bool true]) ∧ Below w.heap.size w w' := by
  go_enter Try.func41, Try.ntmps41
  go_wp2_with fail
  go_loopw [9, 10] (fun i j wr => i = .int .i64 0 ∧ (∃ m : Nat, m ≤ 1 ∧ j = .int .i64 m) ∧ Below w.heap.size w wr) (fun _ j _ => (intOf j).toNat)
  case atStart => exact ⟨rfl, ⟨1, by omega, rfl⟩, Below.refl _ _⟩
  case round =>
    obtain ⟨rfl, ⟨m, hm, rfl⟩, hBw⟩ := hrel
    have h0' := pw_cell_below hBw h0
    have h1' := pw_cell_below hBw h1
    rcases (by omega : m = 0 ∨ m = 1) with rfl | rfl
    · go_wp2_with fail
      refine (cmpG_any none [] 0 RA rn rc B [] bc _ (by simp [Kd.C, ReadsRow]) (by simp) (Kd.C_below hB hBw) (by simp)).mono ?_
      rintro e w1 ⟨rfl, hb1⟩
      go_wp2_with fail
      go_ret2
      exact ⟨rfl, hBw.trans (hb1.mono hBw.size)⟩
    · go_wp2_with fail
      refine (cmpG_any none [] 0 RA rn rc B [] bc _ (by simp [Kd.C, ReadsRow]) (by simp) (Kd.C_below hB hBw) (by simp)).mono ?_
      rintro e w1 ⟨rfl, hb1⟩
      have hr0 : rowsV (([] : Row).map toV) (([] : Row).map toV) = 0 := by simp [rowsV]
      rw [hr0]
      go_wp2_with fail
      go_roundw
      case rel => exact ⟨rfl, ⟨0, by omega, by go_num⟩, hBw.trans (hb1.mono hBw.size)⟩
      case measure => simp [intOf]
end Go.Proofs.Ytghblnldokpceaa.QV
/- exec.Group of one row without a key, where the rows are to be counted. -/
namespace Go.Proofs.Ytghblnldokpceaa.QV
open Go.RowKit Go.Proofs.YtghblnldokpceaaW.PrintWords Go.Proofs.Ytghblnldokpceaa.Seq Go.Shelf Go.Proofs.Ytghblnldokpceaa.Op
set_option linter.unusedVariables false
set_option linter.unusedSimpArgs false
attribute [local go_sem] Oper.semAt_some

/-- Between two rounds: one group, of the rows so far. -/
def GrpI (W : World) (cap : Nat) (pre : List Row) (M : Nat → Prop) (A : World) : Prop :=
  M W.heap.size ∧ M (W.heap.size + 1 + 1) ∧ A.heap[W.heap.size]? = some (.cells #[.slice (some ⟨W.heap.size + 1 + 1, 0, none⟩) 1 cap] 63 (0, 0)) ∧
    (∃ cs rv, A.heap[W.heap.size + 1 + 1]? = some (.cells cs 65 (0, 0)) ∧ cs[0]? = some (.slice none 0 0) ∧ cs[1]? = some rv ∧ Kd.S kRows tRow A W.heap.size (fun k => M k ∧ k ≠ W.heap.size ∧ k ≠ W.heap.size + 1 + 1) rv pre) ∧ (∀ i, M i → W.heap.size ≤ i) ∧ Below W.heap.size W A
theorem GrpI.kept {W : World} {cap : Nat} {pre : List Row} {M : Nat → Prop} {A B : World} {q : Nat → Prop} (h : GrpI W cap pre M A) (hq : ∀ i, q i → W.heap.size ≤ i) (hk : Kpt (fun i => q i ∧ ¬ M i) A B) : GrpI W cap pre M B := by
  obtain ⟨h1, h2, h3, ⟨cs, rv, h4, h5, h6, h7⟩, h8, h9⟩ := h
  exact ⟨h1, h2, hk.at h3 (fun h => h.2 h1), ⟨cs, rv, hk.at h4 (fun h => h.2 h2), h5, h6, Kd.S_step h7 (fun k hk' hlt => hk.block k hlt (fun h => h.2 hk'.1))⟩, h8, h9.trans (hk.below h9.size (fun i _ h => hq i h.1))⟩
theorem C_nil (w : World) : kS.C w none 0 [] := by simp [Kd.C, ReadsRow]
theorem clone_nil (w : World) : Calls Try.prog 33 #[.slice none 0 0] w fun e w' => e = .returned (.slice none 0 0) ∧ w' = w := by
  have hn := Lib.run_eql_slice_nil (P := Try.prog)
  go_enter Try.func33, Try.ntmps33
  go_wp2
  go_ret
  exact ⟨rfl, rfl⟩

def one1 : Row := [⟨2, false, 1, ⟨#[]⟩⟩]

set_option maxRecDepth 100000 in
set_option maxHeartbeats 4000000 in
theorem group_seq1 (row : Row) (sv : Value) (b1 b2 b3 ga ca : Nat) (w : World) (hR : IsSeq w sv [row])
    (h1 : w.cell? ⟨b1, 0, none⟩ = some (.slice none 0 0)) (h2 : w.cell? ⟨b2, 0, none⟩ = some sv) (h3 : w.cell? ⟨b3, 0, none⟩ = some (.slice (some ⟨ga, 0, none⟩) 1 ca)) (h4 : w.cell? ⟨ga, 0, none⟩ = some (.int .i64 0)) (h5 : w.cell? ⟨ga, 1, none⟩ = some (.int .i64 0))
    (hb : row.length ≤ 1048576) :
    SeqOf Try.prog 39 #[.pointer (some ⟨b1, 0, none⟩), .pointer (some ⟨b2, 0, none⟩), .pointer (some ⟨b3, 0, none⟩)] (RdNew w) [one1] w := by
  intro l J Jx W Mc hW hMc hJ hJx hY h0
  have hzw : w.heap.size ≤ W.heap.size := hW.size
  obtain ⟨gR, lbR, RdR, rfl, egR, hsR, hkR, hrR⟩ := hR
  refine (callsIn_wide (n := 0)).1 (callsIn_of_wp_marks Try.func39 rfl trivial ?_ rfl)
  simp only [Try.ntmps39, List.size_toArray, List.length_cons, List.length_nil, Nat.reduceAdd, Nat.reduceSub, Array.replicate_succ, Array.replicate_zero, List.push_toArray, List.append_toArray, List.nil_append, List.cons_append]
  have hbWa : Below W.heap.size W (W.alloc (.cells #[.slice none 0 0] 63)) := below_alloc (Below.refl _ _) _
  have d1 : (W.alloc (.cells #[.slice none 0 0] 63)).cell? ⟨b1, 0, none⟩ = some (.slice none 0 0) := pw_cell_below (hW.trans (hbWa.mono hzw)) h1
  obtain ⟨cap, hcap⟩ : ∃ cap, (Question.appendCap 1 0 65).cut (W.tape W.drawn (Question.appendCap 1 0 65)) = cap := ⟨_, rfl⟩
  obtain ⟨cs0, hcs0⟩ : ∃ cs0 : Array Value, #[Value.slice none 0 0, Value.slice none 0 0] ++ Builtin.zeroCells #[Value.slice none 0 0, Value.slice none 0 0] (cap - 1) = cs0 := ⟨_, rfl⟩
  obtain ⟨W1, hW1⟩ : ∃ W1, (((W.alloc (.cells #[.slice (some ⟨W.heap.size + 1 + 1, 0, none⟩) 1 cap] 63)).alloc (.cells #[.slice none 0 0, .slice none 0 0] 65)).alloc (.cells cs0 65)).drew = W1 := ⟨_, rfl⟩
  have hbW1 : Below W.heap.size W W1 := by rw [← hW1]; exact below_drew (below_alloc (below_alloc (below_alloc (Below.refl _ _) _) _) _)
  have hszW1 : W1.heap.size = W.heap.size + 3 := by rw [← hW1]; simp
  have hx5 : W1.heap[W.heap.size]? = some (.cells #[.slice (some ⟨W.heap.size + 1 + 1, 0, none⟩) 1 cap] 63 (0, 0)) := by rw [← hW1]; exact blk_drew (blk_alloc (blk_alloc (blk_new _ _) _) _)
  have hxg : W1.heap[W.heap.size + 1 + 1]? = some (.cells cs0 65 (0, 0)) := by
    have := blk_new ((W.alloc (.cells #[.slice (some ⟨W.heap.size + 1 + 1, 0, none⟩) 1 cap] 63)).alloc (.cells #[.slice none 0 0, .slice none 0 0] 65)) (.cells cs0 65)
    rw [World.size_alloc, World.size_alloc] at this
    rw [← hW1]; exact blk_drew this
  have k0 : cs0[0]? = some (.slice none 0 0) := by rw [← hcs0, Array.getElem?_append_left (by simp)]; rfl
  have k1 : cs0[1]? = some (.slice none 0 0) := by rw [← hcs0, Array.getElem?_append_left (by simp)]; rfl
  have d2 : W1.cell? ⟨b2, 0, none⟩ = some (.func (.func gR) #[] lbR) := pw_cell_below (hW.trans (hbW1.mono hzw)) h2
  gi_wp2
  clear hW1 hcs0 hcap d1
  refine wpIn_range (gf := gR) (lb := lbR) rfl egR hsR (hW.trans (hbW1.mono hzw)) (fun A N x vs h => by obtain ⟨Ad, c, rfl, _⟩ := hrR _ _ _ _ h; rfl) hkR
    (GrpI W cap) (fun _ _ _ _ => False) (fun pre M A B h hk => h.kept (fun i h => by omega) hk) (fun _ _ _ _ _ h _ => h)
    (fun i => i = W.heap.size ∨ i = W.heap.size + 1 + 1) ?hM ?h0 (fun x vs a₁ M A => ∃ v, vs = #[v] ∧ a₁ = { tmps := #[.func (.yield l) #[] #[], .pointer (some ⟨b1, 0, none⟩), .pointer (some ⟨b2, 0, none⟩), .pointer (some ⟨b3, 0, none⟩), undef, .pointer (some ⟨W.heap.size, 0, none⟩), v, undef, undef, undef, undef, undef, undef, undef, undef, .slice none 0 0, .int .i64 0, .bool true, .slice none 0 0, .agg #[.slice none 0 0, .slice none 0 0], .slice (some ⟨W.heap.size + 1, 0, none⟩) 1 1, .slice (some ⟨W.heap.size + 1 + 1, 0, none⟩) 1 cap, .func (.func gR) #[] lbR, v] ++ Array.replicate 57 undef, defers := [] })
    (fun _ _ _ _ _ _ h _ => h) ?assign ?body ?done ?stop
  case hM => intro i hi; omega
  case h0 => exact ⟨.inl rfl, .inr rfl, hx5, ⟨cs0, _, hxg, k0, k1, Kd.S_nil _ _ _ _ _⟩, fun i hi => by omega, hbW1⟩
  case stop =>
    intro D c pre W M' hpre h
    exact h.elim
  case assign =>
    intro l2 pre x vs N A M hI hpre hrd hM hN
    obtain ⟨Ad, c, rfl, hle, hC⟩ := hrR _ _ _ _ hrd
    gi_wp2
    refine ⟨M, fun i hi => ⟨.inl hi, (hM i hi).2⟩, Kpt.refl _ _, hI, _, rfl, ?_⟩
    simp only [List.size_toArray, List.length_cons, List.length_nil, Nat.reduceAdd, Nat.reduceSub, Array.replicate_succ, Array.replicate_zero, List.push_toArray, List.append_toArray, List.nil_append, List.cons_append]
  case body =>
    intro l2 pre x vs N A M a₁ hI hpre hrd hax hM hN
    obtain ⟨v, rfl, rfl⟩ := hax
    simp only [List.size_toArray, List.length_cons, List.length_nil, Nat.reduceAdd, Nat.reduceSub, Array.replicate_succ, Array.replicate_zero, List.push_toArray, List.append_toArray, List.nil_append, List.cons_append]
    have hpl : pre = [] ∧ x = row := by
      obtain ⟨t, ht⟩ := hpre
      cases pre with
      | nil => simp at ht; exact ⟨rfl, ht.1⟩
      | cons a b => simp at ht
    obtain ⟨rfl, rfl⟩ := hpl
    obtain ⟨hMB, hMG, hbx, ⟨cs, rv, hbg, c0, c1, hS⟩, hMW, hBW⟩ := hI
    obtain ⟨Ad, c, hvv, hle, hC⟩ := hrR _ _ _ _ hrd
    obtain rfl : v = .slice Ad x.length c := by simpa using hvv
    clear hvv
    obtain ⟨RA, rc, rfl⟩ := Kd.S_slice hS
    have d1 : A.cell? ⟨b1, 0, none⟩ = some (.slice none 0 0) := pw_cell_below (hW.trans (hBW.mono hzw)) h1
    have hzA : W.heap.size + 1 + 1 < A.heap.size := blk_lt hbg
    gi_wp2
    refine ⟨trivial, rfl, calls_in _ _ ((exec_picked.calls 1 Ad c x none 0 [] [] A hC hle (by simp [Kd.C, ReadsRow]) (by simp) (by simp [exec_picked.f, exec_picked.l0])).mono ?_)⟩
    rintro e W2 ⟨vk, rfl, hk, hb2⟩
    obtain ⟨KB, kc, rfl, hkle, hkC⟩ := Kd.R_reads hk
    simp only [List.length_nil] at hkC hkle ⊢
    have hbx2 := blk_below hbx hb2
    have hbg2 := blk_below hbg hb2
    have e5 : W2.cell? ⟨W.heap.size, 0, none⟩ = some (.slice (some ⟨W.heap.size + 1 + 1, 0, none⟩) 1 cap) := blk_cell hbx2 0
    have g0 : W2.cell? ⟨W.heap.size + 1 + 1, 0, none⟩ = some (.slice none 0 0) := (blk_cell hbg2 0).trans c0
    have g1 : W2.cell? ⟨W.heap.size + 1 + 1, 1, none⟩ = some (.slice RA 0 rc) := (blk_cell hbg2 1).trans c1
    gi_wp2
    refine ⟨trivial, rfl, calls_in _ _ ((search_one (W.heap.size + 1 + 1) cap RA 0 rc KB kc W2 g0 g1 hkC).mono ?_)⟩
    rintro e W3 ⟨rfl, hb3⟩
    have hb3A : Below A.heap.size A W3 := hb2.trans (hb3.mono hb2.size)
    have hbx3 := blk_below hbx hb3A
    have hbg3 := blk_below hbg hb3A
    gi_wp2
    have S0 : ∀ V : World, Below A.heap.size A V → V.cell? ⟨W.heap.size, 0, none⟩ = some (.slice (some ⟨W.heap.size + 1 + 1, 0, none⟩) 1 cap) ∧ V.cell? ⟨W.heap.size + 1 + 1, 1, none⟩ = some (.slice RA 0 rc) ∧ V.frozen? ⟨W.heap.size + 1 + 1, 1, none⟩ = false :=
      fun V hV => ⟨blk_cell (blk_below hbx hV) 0, (blk_cell (blk_below hbg hV) 1).trans c1, blk_frozen (blk_below hbg hV) 1⟩
    refine wpIn_region_R 13 (S := fun V => V.cell? ⟨W.heap.size, 0, none⟩ = some (.slice (some ⟨W.heap.size + 1 + 1, 0, none⟩) 1 cap) ∧ V.cell? ⟨W.heap.size + 1 + 1, 1, none⟩ = some (.slice RA 0 rc) ∧ V.frozen? ⟨W.heap.size + 1 + 1, 1, none⟩ = false) (by kernel_rfl) (S0 _ (hb3A.trans ((below_drew (Below.refl _ _)).mono hb3A.size))) (fun hS0 => ?_)
    refine wpAnyR_take (i := 0) (oi := ⟨some 41, _, _, _, _, _⟩) (v := ?_) (by kernel_rfl) (by kernel_rfl) rfl (by kernel_rfl) (by kernel_rfl) (by kernel_rfl) (fun _ _ _ h => h) (Or.inl ⟨by rfl, ?_⟩) (by assumption) ?_
    rotate_left
    · intro w hSw; (try dsimp only at hSw); (try go_split_ands); go_simp; (try (with_reducible rfl))
    (try simp only [Act.put, List.setIfInBounds_toArray, List.set_cons_zero, List.set_cons_succ])
    refine wpAnyR_take (i := 1) (oi := ⟨some 42, _, _, _, _, _⟩) (v := ?_) (by kernel_rfl) (by kernel_rfl) rfl (by kernel_rfl) (by kernel_rfl) (by kernel_rfl) (fun _ _ _ h => h) (Or.inl ⟨by rfl, ?_⟩) (by assumption) ?_
    rotate_left
    · intro w hSw; (try dsimp only at hSw); (try go_split_ands); go_simp; (try (with_reducible rfl))
    (try simp only [Act.put, List.setIfInBounds_toArray, List.set_cons_zero, List.set_cons_succ])
    refine wpAnyR_take (i := 2) (oi := ⟨some 43, _, _, _, _, _⟩) (v := ?_) (by kernel_rfl) (by kernel_rfl) rfl (by kernel_rfl) (by kernel_rfl) (by kernel_rfl) (fun _ _ _ h => h) (Or.inl ⟨by rfl, ?_⟩) (by assumption) ?_
    rotate_left
    · intro w hSw; (try dsimp only at hSw); (try go_split_ands); go_simp; (try (with_reducible rfl))
    (try simp only [Act.put, List.setIfInBounds_toArray, List.set_cons_zero, List.set_cons_succ])
    refine wpAnyR_take (i := 3) (oi := ⟨some 44, _, _, _, _, _⟩) (v := ?_) (by kernel_rfl) (by kernel_rfl) rfl (by kernel_rfl) (by kernel_rfl) (by kernel_rfl) (fun _ _ _ h => h) (Or.inl ⟨by rfl, ?_⟩) (by assumption) ?_
    rotate_left
    · intro w hSw; (try dsimp only at hSw); (try go_split_ands); go_simp; (try (with_reducible rfl))
    (try simp only [Act.put, List.setIfInBounds_toArray, List.set_cons_zero, List.set_cons_succ])
    refine wpAnyR_take (i := 4) (oi := ⟨some 45, _, _, _, _, _⟩) (v := ?_) (by kernel_rfl) (by kernel_rfl) rfl (by kernel_rfl) (by kernel_rfl) (by kernel_rfl) (fun _ _ _ h => h) (Or.inl ⟨by rfl, ?_⟩) (by assumption) ?_
    rotate_left
    · intro w hSw; (try dsimp only at hSw); (try go_split_ands); go_simp; (try (with_reducible rfl))
    (try simp only [Act.put, List.setIfInBounds_toArray, List.set_cons_zero, List.set_cons_succ])
    refine wpAnyR_take (i := 5) (oi := ⟨some 46, _, _, _, _, _⟩) (v := ?_) (by kernel_rfl) (by kernel_rfl) rfl (by kernel_rfl) (by kernel_rfl) (by kernel_rfl) (fun _ _ _ h => h) (Or.inl ⟨by rfl, ?_⟩) (by assumption) ?_
    rotate_left
    · intro w hSw; (try dsimp only at hSw); (try go_split_ands); go_simp; (try (with_reducible rfl))
    (try simp only [Act.put, List.setIfInBounds_toArray, List.set_cons_zero, List.set_cons_succ])
    refine wpAnyR_take (i := 6) (oi := ⟨some 47, _, _, _, _, _⟩) (v := ?_) (by kernel_rfl) (by kernel_rfl) rfl (by kernel_rfl) (by kernel_rfl) (by kernel_rfl) (fun _ _ _ h => h) (Or.inl ⟨by rfl, ?_⟩) (by assumption) ?_
    rotate_left
    · intro w hSw; (try dsimp only at hSw); (try go_split_ands); go_simp; (try (with_reducible rfl))
    (try simp only [Act.put, List.setIfInBounds_toArray, List.set_cons_zero, List.set_cons_succ])
    refine wpAnyR_take (i := 7) (oi := ⟨some 48, _, _, _, _, _⟩) (v := ?_) (by kernel_rfl) (by kernel_rfl) rfl (by kernel_rfl) (by kernel_rfl) (by kernel_rfl) (fun _ _ _ h => h) (Or.inl ⟨by rfl, ?_⟩) (by assumption) ?_
    rotate_left
    · intro w hSw; (try dsimp only at hSw); (try go_split_ands); go_simp; (try (with_reducible rfl))
    (try simp only [Act.put, List.setIfInBounds_toArray, List.set_cons_zero, List.set_cons_succ])
    refine wpAnyR_one (i := 8) (o := ⟨some 49, _, _, _, _, _⟩) (by kernel_rfl) (by kernel_rfl) rfl (fun K hK => ?_)
    go_simp
    refine (clone_any Ad x c W3.drew (Kd.C_below (Kd.C_below hC hb3A) (below_drew (Below.refl _ _))) hle (by omega)).mono ?_
    rintro e W4 ⟨v1, rfl, hR1, hb4⟩
    have hb4A : Below A.heap.size A W4 := hb3A.trans (((below_drew (Below.refl _ W3)).trans hb4).mono hb3A.size)
    (try dsimp only)
    refine hK.out _ _ (.inr (S0 _ hb4A)) ?_
    clear hK K
    (try simp only [Act.put, List.setIfInBounds_toArray, List.set_cons_zero, List.set_cons_succ])
    obtain ⟨A1, a1c, rfl, hle1, hC1⟩ := Kd.R_reads hR1
    refine wpAnyR_one (i := 9) (o := ⟨some 50, _, _, _, _, _⟩) (by kernel_rfl) (by kernel_rfl) rfl (fun K hK => ?_)
    go_simp
    refine hK.out _ _ (.inr (S0 _ (below_alloc hb4A _))) ?_
    clear hK K
    (try simp only [Act.put, List.setIfInBounds_toArray, List.set_cons_zero, List.set_cons_succ])
    refine wpAnyR_one (i := 10) (o := ⟨some 51, _, _, _, _, _⟩) (by kernel_rfl) (by kernel_rfl) rfl (fun K hK => ?_)
    have hzA4 : A.heap.size ≤ W4.heap.size := hb4A.size
    have hzA3 : A.heap.size ≤ W3.heap.size := hb3A.size
    refine Kd.S_append_step kRows (w0 := A) W.heap.size (by rfl) (.tmp 47) (.tmp 50) 22 31 _ 24 rfl Try.underlying22 infoRow rfl (by decide) (by decide) (.slice RA 0 rc) [] x [.slice A1 x.length a1c]
      (fun k => (M k ∧ k ≠ W.heap.size ∧ k ≠ W.heap.size + 1 + 1) ∨ A.heap.size ≤ k) (fun k => (Value.slice A1 x.length a1c).ownBlock = some k) rfl rfl ⟨_, rfl, RS_ok (Kd.R_lower hR1 (by show W.heap.size ≤ W3.heap.size; omega)) (fun _ h => h)⟩ ?_ (fun k hk => .inr (by omega)) ?_ (hb4A.mono (by omega)) (by omega) (by decide) ?_
    · intro k hk
      have := Kd.R_base hR1 k hk
      exact ⟨.inr (Nat.le_trans hzA3 this), fun e => by have h2 := Kd.S_lt hS k e.symm; exact absurd this (by show ¬ W3.heap.size ≤ k; omega)⟩
    · refine Kd.S_mono (Kd.S_below (Kd.S_bound hS) hb4A) (fun k hk => ⟨.inl hk.1, fun h => ?_⟩)
      have := Kd.R_base hR1 k h
      exact absurd this (by show ¬ W3.heap.size ≤ k; have := hk.2.2.1; omega)
    intro v2 W5 hS2 hB2 hg2 hat2
    obtain ⟨g2, cap2, rfl, hg2b, hg2l, cells2, hcells2⟩ := Kd.S_form hS2 (by simp)
    simp only [List.nil_append, List.length_cons, List.length_nil, Nat.zero_add] at hS2 ⊢
    have hbx5 := blk_grown (blk_below hbx hb4A) hg2 (Kd.S_away hS (fun k hk => hk.2.1))
    have hbg5 := blk_grown (blk_below hbg hb4A) hg2 (Kd.S_away hS (fun k hk => hk.2.2))
    refine hK.out _ _ (.inr ⟨blk_cell hbx5 0, (blk_cell hbg5 1).trans c1, blk_frozen hbg5 1⟩) ?_
    clear hK K
    (try simp only [Act.put, List.setIfInBounds_toArray, List.set_cons_zero, List.set_cons_succ])
    have hS05 : W5.cell? ⟨W.heap.size, 0, none⟩ = some (.slice (some ⟨W.heap.size + 1 + 1, 0, none⟩) 1 cap) ∧ W5.cell? ⟨W.heap.size + 1 + 1, 1, none⟩ = some (.slice RA 0 rc) ∧ W5.frozen? ⟨W.heap.size + 1 + 1, 1, none⟩ = false := ⟨blk_cell hbx5 0, (blk_cell hbg5 1).trans c1, blk_frozen hbg5 1⟩
    refine wpAnyR_one (i := 11) (o := ⟨some 52, _, _, _, _, _⟩) (by kernel_rfl) (by kernel_rfl) rfl (fun K hK => ?_)
    go_simp
    refine hK.out _ _ (.inr hS05) ?_
    clear hK K
    (try simp only [Act.put, List.setIfInBounds_toArray, List.set_cons_zero, List.set_cons_succ])
    refine wpAnyR_one (i := 12) (o := ⟨some 53, _, _, _, _, _⟩) (by kernel_rfl) (by kernel_rfl) rfl (fun K hK => ?_)
    go_simp
    refine hK.out _ _ (.inr hS05) ?_
    clear hK K
    (try simp only [Act.put, List.setIfInBounds_toArray, List.set_cons_zero, List.set_cons_succ])
    have hcg : W5.cell? ⟨W.heap.size + 1 + 1, 1, none⟩ = some (.slice RA 0 rc) := hS05.2.1
    have hfg : W5.frozen? ⟨W.heap.size + 1 + 1, 1, none⟩ = false := hS05.2.2
    refine wpAnyR_one (i := 13) (o := ⟨none, _, _, _, _, _⟩) (by kernel_rfl) (by kernel_rfl) rfl (fun K hK => ?_)
    go_simp
    refine hK.out _ _ (.inl rfl) ?_
    clear hK K
    (try simp only [Act.put, List.setIfInBounds_toArray, List.set_cons_zero, List.set_cons_succ])
    refine wpAnyR_done (by kernel_rfl) ?_ _
    gi_wp2
    have hzA5 : W4.heap.size ≤ W5.heap.size := hg2.size
    obtain ⟨W6, hW6⟩ : ∃ W6, W5.setCell ⟨W.heap.size + 1 + 1, 1, none⟩ (.slice (some ⟨g2, 0, none⟩) 1 cap2) = W6 := ⟨_, rfl⟩
    rw [hW6]
    have hk6 : Kpt (fun i => i = W.heap.size + 1 + 1) W5 W6 := by rw [← hW6]; exact Kpt.setCell W5 ⟨W.heap.size + 1 + 1, 1, none⟩ _
    have hbx6 := hk6.at hbx5 (by omega)
    have hbg6 : W6.heap[W.heap.size + 1 + 1]? = some (.cells (cs.setIfInBounds 1 (.slice (some ⟨g2, 0, none⟩) 1 cap2)) 65 (0, 0)) := by rw [← hW6]; exact blk_set hbg5 1 _
    have hS6 : Kd.S kRows tRow W6 W.heap.size (fun k => ((M k ∧ k ≠ W.heap.size ∧ k ≠ W.heap.size + 1 + 1) ∨ A.heap.size ≤ k) ∧ k < W6.heap.size) (.slice (some ⟨g2, 0, none⟩) 1 cap2) [x] := by
      have h3 : Kd.S kRows tRow W6 W.heap.size (fun k => (M k ∧ k ≠ W.heap.size ∧ k ≠ W.heap.size + 1 + 1) ∨ A.heap.size ≤ k) (.slice (some ⟨g2, 0, none⟩) 1 cap2) [x] := by
        rw [← hW6]
        exact Kd.S_far (p := ⟨W.heap.size + 1 + 1, 1, none⟩) hS2 (fun k hk => by rcases hk with hk | hk; exact hk.2.2; show k ≠ W.heap.size + 1 + 1; omega) _
      exact Kd.S_mono (Kd.S_bound h3) (fun k hk => ⟨hk.1, hk.2.2.1⟩)
    have hKA6 : Kpt M A W6 := by
      refine ((Kpt.of_new M hb4A).trans (Kpt.grown hg2) (M := M) (fun i hi h => ?_)).trans hk6 (fun i hi h => ?_)
      · rcases h with h | h
        · exact h
        · exact ((Kd.S_R hS).1 i h.symm).1
      · rcases h with h | h
        · exact h
        · rw [h]; exact hMG
    have hz6 := hKA6.size
    have hcs1 : 1 < cs.size := by
      rcases Nat.lt_or_ge 1 cs.size with h | h
      · exact h
      · rw [Array.getElem?_eq_none h] at c1; cases c1
    refine ⟨fun i => (M i ∨ A.heap.size ≤ i) ∧ i < W6.heap.size, fun i hi => ⟨by rcases hi.1 with h | h; exact .inl h; exact .inr (.inr h), hi.2⟩, hKA6.mono (fun _ _ h => .inl h), ⟨.inl hMB, by omega⟩, ⟨.inl hMG, by omega⟩, hbx6, ⟨cs.setIfInBounds 1 (.slice (some ⟨g2, 0, none⟩) 1 cap2), .slice (some ⟨g2, 0, none⟩) 1 cap2, hbg6, ?_, ?_, ?_⟩, fun i hi => by rcases hi.1 with h | h; exact hMW i h; omega, hBW.trans (hKA6.below hBW.size (fun i _ h => hMW i h))⟩
    · rw [Array.getElem?_setIfInBounds_ne (by omega)]; exact c0
    · rw [Array.getElem?_setIfInBounds_self_of_lt hcs1]
    · refine Kd.S_mono hS6 (fun k hk' => ?_)
      have hlt' := hk'.2
      rcases hk'.1 with h | h
      · exact ⟨⟨.inl h.1, by omega⟩, h.2.1, h.2.2⟩
      · exact ⟨⟨.inr h, by omega⟩, by omega, by omega⟩
  case done =>
    intro D W2 M' hI hk hM' hD hDw hDM
    obtain ⟨hMB, hMG, hbx, ⟨cs, rv, hbg, c0, c1, hS⟩, hMW, hBW⟩ := hI
    obtain ⟨RA, rc, rfl⟩ := Kd.S_slice hS
    simp only [List.length_cons, List.length_nil, Nat.zero_add] at c1 hS
    have hr := (Kd.S_reads' hS).2.2
    have e5 : W2.cell? ⟨W.heap.size, 0, none⟩ = some (.slice (some ⟨W.heap.size + 1 + 1, 0, none⟩) 1 cap) := blk_cell hbx 0
    have hbwW2 : Below w.heap.size w W2 := hW.trans (hBW.mono hzw)
    have hMcW : ∀ i, Mc i → i < W.heap.size := fun i h => (hMc i h).2
    have hzW2 := hBW.size
    gi_wp2
    gi_loopw [56] (fun i wr => (i = .int .i64 0 ∧ wr = W2) ∨ (i = .int .i64 1 ∧ ∃ M9, J [one1] M9 wr ∧ (∀ i, M9 i → (Mc i ∨ W2.heap.size ≤ i) ∧ i < wr.heap.size) ∧ Kpt Mc W2 wr)) (fun i _ => 1 - (intOf i).toNat)
    case atStart => exact .inl ⟨rfl, rfl⟩
    case round =>
      rcases hrel with ⟨rfl, hwr⟩ | ⟨rfl, M9, hJ9, hM9, hk9⟩
      · obtain rfl := hwr.symm
        have g0 : W2.cell? ⟨W.heap.size + 1 + 1, 0, none⟩ = some (.slice none 0 0) := (blk_cell hbg 0).trans c0
        have g1 : W2.cell? ⟨W.heap.size + 1 + 1, 1, none⟩ = some (.slice RA 1 rc) := (blk_cell hbg 1).trans c1
        gi_wp2
        refine ⟨trivial, rfl, callsIn_wide.2 ((clone_nil _).mono ?_)⟩
        rintro e W3 ⟨rfl, rfl⟩
        have hb3 : Below W2.heap.size W2 (W2.alloc (.cells #[.slice none 0 0, .slice RA 1 rc] 65)) := below_alloc (Below.refl _ _) _
        have d3 : (W2.alloc (.cells #[.slice none 0 0, .slice RA 1 rc] 65)).cell? ⟨b3, 0, none⟩ = some (.slice (some ⟨ga, 0, none⟩) 1 ca) := pw_cell_below (hbwW2.trans (hb3.mono hbwW2.size)) h3
        gi_wp2
        obtain ⟨W3, hW3⟩ : ∃ W3, W2.alloc (.cells #[.slice none 0 0, .slice RA 1 rc] 65) = W3 := ⟨_, rfl⟩
        rw [hW3] at d3 hb3 ⊢
        have hsz3 : W3.heap.size = W2.heap.size + 1 := by rw [← hW3]; simp
        have hx11 : W3.heap[W2.heap.size]? = some (.cells #[.slice none 0 0, .slice RA 1 rc] 65 (0, 0)) := by rw [← hW3]; exact blk_new _ _
        clear hW3
        have hbw3 : Below w.heap.size w W3 := hbwW2.trans (hb3.mono hbwW2.size)
        gi_loopw [12, 65] (fun out i V => (out = .slice none 0 0 ∧ i = .int .i64 0 ∧ V = W3) ∨ (i = .int .i64 1 ∧ kS.R tS V W3.heap.size (fun _ => True) out one1 ∧ Below W3.heap.size W3 V)) (fun _ i _ => 1 - (intOf i).toNat)
        case atStart => exact .inl ⟨rfl, rfl, rfl⟩
        case round =>
          rcases hrel with ⟨rfl, rfl, hwr⟩ | ⟨rfl, hRo, hBo⟩
          · obtain rfl := hwr.symm
            refine wpIn_wide.2 ?_
            have a0 := pw_cell_below hbw3 h4
            have a1 := pw_cell_below hbw3 h5
            have f0 := blk_cell (blk_alloc hx11 (.cells #[.int .i64 0, .int .i64 0] 48)) 0
            have f1 := blk_cell (blk_alloc hx11 (.cells #[.int .i64 0, .int .i64 0] 48)) 1
            go_wp2_with fail
            refine (told_count none 0 0 RA [row] rc 0 _ (Kd.C_alloc (Kd.C_below hr hb3) _) (by simp)).mono ?_
            rintro e W5 ⟨rfl, hb5⟩
            have hb5' : Below W3.heap.size W3 W5 := (below_alloc (Below.refl _ _) _).trans (hb5.mono (by simp))
            have h1l : (([row] : List Row).length : Int) = 1 := rfl
            rw [h1l]
            go_wp2_with (at_builtin; refine Kd.R_append kS (w0 := W3) W3.heap.size rfl (.tmp 69) (.tmp 73) 31 42 _ 40 rfl Try.underlying31 infoS rfl (by decide) (by decide) (.slice none 0 0) [] ⟨2, false, 1, ⟨#[]⟩⟩ [.int .i64 2, .bool false, .int .i64 1, .string ⟨#[]⟩] (fun _ => True) (fun _ => False) rfl rfl (k42_mkM _ _ _ _) (fun _ h => h.elim) (fun _ _ => trivial) (Kd.R_nil _ _ _ _ _) hb5' (by have := hb5'.size; omega) (by decide) ?_; intro v1 w1 hv1 hB1 hg1 hat1)
            go_roundw
            case rel => exact .inr ⟨by go_num, hv1, hB1⟩
            case measure => simp [intOf]
          · have hcl : [] ++ [one1] <+: [one1] := by simp
            have hbo2 : Below W2.heap.size W2 wr := hb3.trans (hBo.mono hb3.size)
            have hszo := hBo.size
            obtain ⟨fn, tmps, assign, body, hy, hR9⟩ := hY [] one1 #[u12] (fun i => W3.heap.size ≤ i ∧ i < wr.heap.size) wr Mc (hJ _ _ _ _ h0 (Kpt.of_new _ (hBW.trans (hbo2.mono hBW.size)))) hcl
              ⟨_, rfl, Kd.R_lower (Kd.R_mono (Kd.R_bound hRo) (fun i hi => ⟨hi.2.1, hi.2.2.1⟩)) (by have := hbwW2.size; omega), fun i hi => hi.2⟩
              (fun i hi => ⟨(hMc i hi).1, by have := hMcW i hi; omega⟩) (fun i hi => ⟨by omega, hi.2, fun h => by have := hMcW i h; omega⟩) (by omega)
            gi_wp2
            refine ⟨rfl, hR9.mono ?_⟩
            rintro e W9 ⟨M9, hM9, hk9, hor⟩
            have hMM : ∀ i, M9 i → (Mc i ∨ W2.heap.size ≤ i) ∧ i < W9.heap.size := fun i hi => ⟨by rcases (hM9 i hi).1 with h | h | h; exact .inl h; exact .inr (by omega); exact .inr (by omega), (hM9 i hi).2⟩
            have hKK : Kpt Mc W2 W9 := (Kpt.of_new Mc hbo2).trans hk9 (fun i hi h => by
              rcases h with h | h | h
              · exact h
              · exact h
              · omega)
            rcases hor with ⟨rfl, hJ9⟩ | ⟨rfl, hJ9⟩
            · gi_wp2
              go_roundw
              case rel => exact .inr ⟨by go_num, M9, hJ9, hMM, hKK⟩
              case measure => simp [intOf]
            · gi_wp2
              have hDW : W.heap.size ≤ D := by omega
              have hD2 : D < W2.heap.size := (Array.getElem?_eq_some_iff.1 hD).1
              have hDk : W9.heap[D]? = some (.deferred (some [])) := hKK.at hD (fun h => by have := hMcW D h; omega)
              refine ⟨by simp, .inl ⟨_, _, rfl, run_takeDeferred hDk, ?_⟩⟩
              obtain ⟨M4, h41, h42, h43⟩ := J2.ends (o := .deferred none) hJx hMcW hBW (⟨M9, hJ9, fun i => Iff.rfl, hMM, hKK⟩ : J2 Jx Mc W W2 [one1] (fun i => M9 i ∨ (W.heap.size ≤ i ∧ i < W2.heap.size)) W9) hDW (fun h => by omega)
              exact ⟨_, results_none rfl _ _ _, ⟨_, rfl⟩, M4, h41, h42, .inr ⟨_, hcl, h43⟩⟩
      · gi_wp2
        have hDW : W.heap.size ≤ D := by omega
        have hD2 : D < W2.heap.size := (Array.getElem?_eq_some_iff.1 hD).1
        have hDk : wr.heap[D]? = some (.deferred (some [])) := hk9.at hD (fun h => by have := hMcW D h; omega)
        refine ⟨by simp, .inl ⟨_, _, rfl, run_takeDeferred hDk, ?_⟩⟩
        obtain ⟨M4, h41, h42, h43⟩ := J2.ends (o := .deferred none) hJ hMcW hBW (⟨M9, hJ9, fun i => Iff.rfl, hM9, hk9⟩ : J2 J Mc W W2 [one1] (fun i => M9 i ∨ (W.heap.size ≤ i ∧ i < W2.heap.size)) wr) hDW (fun h => by omega)
        exact ⟨_, results_none rfl _ _ _, ⟨_, rfl⟩, M4, h41, h42, .inl h43⟩
end Go.Proofs.Ytghblnldokpceaa.QV
/- XRound outside a round (printed from XRound): one condition S on the world for the whole region; what yields its value in every world that meets S is taken first. -/
namespace Go.Proofs.Ytghblnldokpceaa.SeqW
open Go Go.RowKit
set_option linter.unusedVariables false

abbrev Rn (l : Nat) : Fence := Fence.wide
theorem calls_in (l n : Nat) {P : Program} {f : FuncId} {args : Array Value} {w : World} {R : Ending → World → Prop} (h : Calls P f args w R) : CallsIn (Rn l) n P f args w R :=
  callsIn_wide.2 h
theorem rows_in (l n : Nat) {P : Program} {row : String} {args : Array Value} {w : World} {R : Value → World → Prop} (h : Rows P row args w R) : RowsIn (Rn l) n P row args w R := by
  intro c cs _
  obtain ⟨v, w', r, s⟩ := h c cs
  exact ⟨v, w', r, stepsIn_wide.2 s⟩
/-- An operation that is no deferred call, carried out in a round, goes as anywhere. -/
theorem op_in (l n : Nat) {P : Program} {o : Oper} {a : Act} {w : World} {K : Act → World → Prop} {Q : Exit → Act → World → Prop} (hnd : ∀ c, o.op ≠ .defer c) (h : o.wp P a w K Q) : o.wpIn (Rn l) n P a w K Q := by
  refine ⟨fun _ _ => trivial, ?_⟩
  unfold Oper.wp at h
  rw [show (Rn l).round = none from rfl, Oper.semAt_none]
  generalize (execOp a.eval o).run P w = r at h
  cases r with
  | ok x w' =>
    cases x <;> simp only [Oper.upon, Oper.uponIn] at h ⊢
    case value v => exact h
    case skip => exact h
    case defer d => exact h
    case enter f args => exact ⟨(fun h => by cases h), calls_in l _ h⟩
    case row row args => exact ⟨(fun h => by cases h), rows_in l _ h⟩
  | halt x w' => cases x <;> simp only [Oper.upon, Oper.uponIn] at h ⊢; exact h

section
variable {l : Nat} {P : Program} {ops : Array Oper} {Q : Exit → Act → World → Prop} {S : World → Prop} {d : Nat}
def noDefer (ops : Array Oper) : Bool := ops.toList.all fun o => match o.op with | .defer _ => false | _ => true
theorem noDefer_spec (h : noDefer ops = true) (j : Nat) (o : Oper) (ho : ops[j]? = some o) : ∀ c, o.op ≠ .defer c := by
  intro c e
  have hm : o ∈ ops.toList := by
    have := Array.mem_of_getElem? ho
    simpa using this
  have := List.all_eq_true.1 h o hm
  rw [e] at this
  simp at this

/-- Number d waits for number i. -/
def waitsOn (ops : Array Oper) (d i : Nat) : Bool := match ops[d]? with
  | some o => o.after.toList.any (fun e => Region.binds .any e && e.on == i)
  | none => true
/-- S is to hold behind each operation but number d. -/
def wpAnyR (l : Nat) (P : Program) (ops : Array Oper) (Q : Exit → Act → World → Prop) (S : World → Prop) (d : Nat) : Nat → Array Bool → Act → World → Prop
  | 0, listed, a, w => Region.ready .any ops listed = [] ∧ Q .normal a w
  | fuel + 1, listed, a, w => (Region.ready .any ops listed = [] → Q .normal a w) ∧
    ∀ i ∈ Region.ready .any ops listed, wpOpIn (Rn l) 0 P ops Q i (fun a' w' => (i = d ∨ S w') ∧ wpAnyR l P ops Q S d fuel (listed.setIfInBounds i true) a' w') a w
theorem wpAnyIn_of_R : ∀ (fuel : Nat) (listed : Array Bool) (a : Act) (w : World), wpAnyR l P ops Q S d fuel listed a w → wpAnyIn (Rn l) 0 P .any ops Q fuel listed a w
  | 0, _, _, _, h => h
  | fuel + 1, _, _, _, h => ⟨h.1, fun i hi => wpOpIn_mono (fun a' w' h' => wpAnyIn_of_R fuel _ a' w' h'.2) (h.2 i hi)⟩
theorem YieldsIf.wpOpR {i : Nat} {o : Oper} {v : Value} {a : Act} (hnd : noDefer ops = true) (hi : ops[i]? = some o) (hy : YieldsIf P ops S o v a) {K : Act → World → Prop} {w : World} (hS : S w) (h : K (a.put o.dst v) w) : wpOpIn (Rn l) 0 P ops Q i K a w := by
  unfold Go.wpOpIn
  simp only [hi]
  rcases hy with ⟨hw, hv⟩ | ⟨hw, rfl⟩
  · simp only [hw, if_true]
    exact op_in l 0 (noDefer_spec hnd i o hi) (by simp only [Oper.wp, hv w hS, Oper.upon]; exact h)
  · simp only [hw, Bool.false_eq_true, if_false]; exact ⟨fun _ _ => trivial, h⟩
theorem wpOpR_putIf {j : Nat} {oi oj : Oper} {v : Value} (hnd : noDefer ops = true) (hj : ops[j]? = some oj) (hap : oi.apart ops oj = true)
    (hsi : ∀ cs b, oi.op ≠ .select cs b) (hsj : ∀ cs b, oj.op ≠ .select cs b)
    (hQ : ∀ c a w, Q (.panic c) (a.put oi.dst v) w → Q (.panic c) a w) {K : Act → World → Prop} {a : Act} {w : World}
    (hy : YieldsIf P ops S oi v a) (h : wpOpIn (Rn l) 0 P ops Q j K (a.put oi.dst v) w) :
    wpOpIn (Rn l) 0 P ops Q j (fun a' w' => YieldsIf P ops S oi v a' ∧ K (a'.put oi.dst v) w') a w := by
  have hnj := noDefer_spec hnd j oj hj
  obtain ⟨h1, h2, h3⟩ := Oper.apart_spec hap
  have keep : ∀ (a : Act), YieldsIf P ops S oi v a → ∀ u, YieldsIf P ops S oi v (a.put oj.dst u) := fun a hy u =>
    hy.of_same (execOp_put oi hsi a oj.dst u h3) (wanted_put oi a oj.dst u h3)
  have keepD : ∀ d, YieldsIf P ops S oi v { a with defers := d :: a.defers } := fun d => hy.of_same rfl rfl
  unfold wpOpIn at *
  simp only [hj] at *
  rw [wanted_put oj a oi.dst v h1] at h
  split
  · rename_i hw
    simp only [hw, if_true] at h
    unfold Oper.wpIn at *
    refine ⟨fun _ _ => trivial, ?_⟩
    have h := h.2
    rw [show (Rn l).round = none from rfl, Oper.semAt_none] at h ⊢
    rw [execOp_put oj hsj a oi.dst v h1] at h
    generalize (execOp a.eval oj).run P w = r at *
    cases r with
    | ok x w' =>
      cases x <;> simp only [Oper.uponIn] at h ⊢
      case value u => exact ⟨keep a hy u, by rw [← Act.put_comm a v u h2]; exact h⟩
      case skip => exact ⟨keep a hy _, by rw [← Act.put_comm a v undef h2]; exact h⟩
      case defer d =>
        refine ⟨keep _ (keepD d) _, ?_⟩
        rw [← Act.put_comm _ v undef h2, ← Act.put_defers]
        exact h
      case enter f args =>
        refine ⟨h.1, CallsIn.mono h.2 fun e w'' he => ?_⟩
        cases e with
        | returned u => exact ⟨keep a hy u, by rw [← Act.put_comm a v u h2]; exact he⟩
        | panicked c => exact hQ _ _ _ he
        | outgrown => exact he
      case row row args => exact ⟨h.1, RowsIn.mono h.2 fun u w'' he => ⟨keep a hy u, by rw [← Act.put_comm a v u h2]; exact he⟩⟩
      case round l f tmps assign body =>
        refine ⟨h.1, RoundIn.mono h.2 fun e w'' he => ?_⟩
        cases e with
        | returned u => exact ⟨keep a hy u, by rw [← Act.put_comm a v u h2]; exact he⟩
        | panicked c => exact hQ _ _ _ he
        | outgrown => exact he
    | halt x w' =>
      cases x <;> simp only [Oper.uponIn] at h ⊢
      case panic u => exact hQ _ _ _ h
  · rename_i hw
    simp only [hw] at h
    exact ⟨fun _ _ => trivial, keep a hy _, by rw [← Act.put_comm a v undef h2]; exact h.2⟩
theorem wpAnyR_first {i : Nat} {oi : Oper} {v : Value} (hnd : noDefer ops = true) (hwd : waitsOn ops d i = true) (hi : ops[i]? = some oi) (hsel : ∀ (j : Nat) (o : Oper) cs b, ops[j]? = some o → o.op ≠ .select cs b)
    (hQ : ∀ c a w, Q (.panic c) (a.put oi.dst v) w → Q (.panic c) a w) :
    ∀ (fuel : Nat) (listed : Array Bool) (a : Act) (w : World),
      (∀ j oj, ops[j]? = some oj → j ≠ i → listed.getD j true = false → (∀ e ∈ oj.after, Region.binds .any e = true → e.on ≠ i) → oi.apart ops oj = true) →
      i ∈ Region.ready .any ops listed → YieldsIf P ops S oi v a → S w →
      wpAnyR l P ops Q S d fuel (listed.setIfInBounds i true) (a.put oi.dst v) w → wpAnyR l P ops Q S d (fuel + 1) listed a w := by
  intro fuel
  induction fuel with
  | zero =>
    intro listed a w _ hr hy hS H
    refine ⟨fun h => (by rw [h] at hr; cases hr), fun j hj => ?_⟩
    by_cases hji : j = i
    · subst hji; exact YieldsIf.wpOpR hnd hi hy hS ⟨.inr hS, H⟩
    · have := ready_mono hj hji
      rw [H.1] at this
      cases this
  | succ fuel ih =>
    intro listed a w hfree hr hy hS H
    refine ⟨fun h => (by rw [h] at hr; cases hr), fun j hj => ?_⟩
    by_cases hji : j = i
    · subst hji; exact YieldsIf.wpOpR hnd hi hy hS ⟨.inr hS, H⟩
    · have h1 := H.2 j (ready_mono hj hji)
      obtain ⟨hjun, oj, hoj, hall⟩ := mem_ready.1 hj
      have hnot : ∀ e ∈ oj.after, Region.binds .any e = true → e.on ≠ i := fun e he hb heq => by
        have h1 := hall e he hb
        have h0 := (mem_ready.1 hr).1
        rw [heq] at h1
        rcases Nat.lt_or_ge i listed.size with h' | h'
        · simp [h'] at h0 h1; rw [h0] at h1; cases h1
        · simp [Array.getElem?_eq_none h'] at h1
      have h2 := wpOpR_putIf hnd hoj (hfree j oj hoj hji hjun hnot) (fun cs b => hsel i oi cs b hi) (fun cs b => hsel j oj cs b hoj) hQ hy h1
      have hfree' : ∀ k ok, ops[k]? = some ok → k ≠ i → (listed.setIfInBounds j true).getD k true = false →
          (∀ e ∈ ok.after, Region.binds .any e = true → e.on ≠ i) → oi.apart ops ok = true := fun k ok hk hki hun hno => by
        refine hfree k ok hk hki ?_ hno
        by_cases hjk : j = k
        · subst hjk; exact hjun
        · rw [getD_set_ne true hjk] at hun; exact hun
      have hjd : j ≠ d := by
        rintro rfl
        unfold waitsOn at hwd
        rw [hoj] at hwd
        obtain ⟨q, hq, hqb⟩ := List.any_eq_true.1 hwd
        rw [Array.mem_toList_iff] at hq
        rw [Bool.and_eq_true] at hqb
        exact hnot q hq hqb.1 (by simpa using hqb.2)
      refine wpOpIn_mono (fun a' w' h3 => ⟨.inr (h3.2.1.resolve_left hjd), ih (listed.setIfInBounds j true) a' w' hfree' (ready_mono hr (Ne.symm hji)) h3.1 (h3.2.1.resolve_left hjd) ?_⟩) h2
      rw [Array.setIfInBounds_comm _ _ hji]
      exact h3.2.2
/-- Take number i first. -/
theorem wpAnyR_take {i : Nat} {oi : Oper} {v : Value} {fuel : Nat} {listed : Array Bool} {a : Act} {w : World} (hnd : noDefer ops = true) (hwd : waitsOn ops d i = true) (hi : ops[i]? = some oi)
    (hs : Region.noSelect ops = true) (hf : Region.free .any ops listed i = true) (hr : (Region.ready .any ops listed).contains i = true)
    (hQ : ∀ c a w, Q (.panic c) (a.put oi.dst v) w → Q (.panic c) a w) (hy : YieldsIf P ops S oi v a) (hS : S w)
    (h : wpAnyR l P ops Q S d fuel (listed.setIfInBounds i true) (a.put oi.dst v) w) : wpAnyR l P ops Q S d (fuel + 1) listed a w :=
  wpAnyR_first hnd hwd hi (Region.noSelect_spec hs) hQ fuel listed a w (Region.free_spec hi hf) (by simpa using hr) hy hS h
/-- Number i is the only one that may come up: it goes as anywhere. -/
theorem wpAnyR_one {i : Nat} {o : Oper} {fuel : Nat} {listed : Array Bool} {a : Act} {w : World} (hnd : noDefer ops = true) (hr : Region.ready .any ops listed = [i]) (ho : ops[i]? = some o)
    (h : ∀ K' : Act → World → Prop, Shut (∀ a w, (i = d ∨ S w) → wpAnyR l P ops Q S d fuel (listed.setIfInBounds i true) a w → K' a w) → if Region.wanted o (yielded ops a.tmps) = true then Oper.wp P o a w K' Q else K' (a.put o.dst undef) w) :
    wpAnyR l P ops Q S d (fuel + 1) listed a w := by
  refine ⟨fun h0 => (by rw [hr] at h0; cases h0), fun j hj => ?_⟩
  rw [hr] at hj
  obtain rfl := List.mem_singleton.1 hj
  have := h (fun a' w' => (j = d ∨ S w') ∧ wpAnyR l P ops Q S d fuel (listed.setIfInBounds j true) a' w') (fun a w hs hw => ⟨hs, hw⟩)
  unfold Go.wpOpIn
  simp only [ho]
  split
  · rename_i hw; rw [if_pos hw] at this; exact op_in l 0 (noDefer_spec hnd j o ho) this
  · rename_i hw; rw [if_neg hw] at this; exact ⟨fun _ _ => trivial, this⟩
/-- Two may come up. -/
theorem wpAnyR_two {i j : Nat} {oi oj : Oper} {fuel : Nat} {listed : Array Bool} {a : Act} {w : World} (hnd : noDefer ops = true) (hr : Region.ready .any ops listed = [i, j]) (hi : ops[i]? = some oi) (hj : ops[j]? = some oj)
    (h1 : ∀ K' : Act → World → Prop, Shut (∀ a w, (i = d ∨ S w) → wpAnyR l P ops Q S d fuel (listed.setIfInBounds i true) a w → K' a w) → if Region.wanted oi (yielded ops a.tmps) = true then Oper.wp P oi a w K' Q else K' (a.put oi.dst undef) w)
    (h2 : ∀ K' : Act → World → Prop, Shut (∀ a w, (j = d ∨ S w) → wpAnyR l P ops Q S d fuel (listed.setIfInBounds j true) a w → K' a w) → if Region.wanted oj (yielded ops a.tmps) = true then Oper.wp P oj a w K' Q else K' (a.put oj.dst undef) w) :
    wpAnyR l P ops Q S d (fuel + 1) listed a w := by
  refine ⟨fun h0 => (by rw [hr] at h0; cases h0), fun k hk => ?_⟩
  rw [hr] at hk
  simp only [List.mem_cons, List.not_mem_nil, or_false] at hk
  rcases hk with rfl | rfl
  · have := h1 (fun a' w' => (k = d ∨ S w') ∧ wpAnyR l P ops Q S d fuel (listed.setIfInBounds k true) a' w') (fun a w hs hw => ⟨hs, hw⟩)
    unfold Go.wpOpIn
    simp only [hi]
    split
    · rename_i hw; rw [if_pos hw] at this; exact op_in l 0 (noDefer_spec hnd k oi hi) this
    · rename_i hw; rw [if_neg hw] at this; exact ⟨fun _ _ => trivial, this⟩
  · have := h2 (fun a' w' => (k = d ∨ S w') ∧ wpAnyR l P ops Q S d fuel (listed.setIfInBounds k true) a' w') (fun a w hs hw => ⟨hs, hw⟩)
    unfold Go.wpOpIn
    simp only [hj]
    split
    · rename_i hw; rw [if_pos hw] at this; exact op_in l 0 (noDefer_spec hnd k oj hj) this
    · rename_i hw; rw [if_neg hw] at this; exact ⟨fun _ _ => trivial, this⟩
/-- Number i is the only one that may come up, and it is a call of yield (or whatever else goes in a round alone). -/
theorem wpAnyR_oneIn {i : Nat} {o : Oper} {fuel : Nat} {listed : Array Bool} {a : Act} {w : World} (hr : Region.ready .any ops listed = [i]) (ho : ops[i]? = some o)
    (h : ∀ K' : Act → World → Prop, Shut (∀ a w, (i = d ∨ S w) → wpAnyR l P ops Q S d fuel (listed.setIfInBounds i true) a w → K' a w) → if Region.wanted o (yielded ops a.tmps) = true then Oper.wpIn (Rn l) 0 P o a w K' Q else K' (a.put o.dst undef) w) :
    wpAnyR l P ops Q S d (fuel + 1) listed a w := by
  refine ⟨fun h0 => (by rw [hr] at h0; cases h0), fun j hj => ?_⟩
  rw [hr] at hj
  obtain rfl := List.mem_singleton.1 hj
  have := h (fun a' w' => (j = d ∨ S w') ∧ wpAnyR l P ops Q S d fuel (listed.setIfInBounds j true) a' w') (fun a w hs hw => ⟨hs, hw⟩)
  unfold Go.wpOpIn
  simp only [ho]
  split
  · rename_i hw; rw [if_pos hw] at this; exact this
  · rename_i hw; rw [if_neg hw] at this; exact ⟨fun _ _ => trivial, this⟩
theorem wpAnyR_done {listed : Array Bool} {a : Act} {w : World} (hr : Region.ready .any ops listed = []) (h : Q .normal a w) : ∀ fuel, wpAnyR l P ops Q S d fuel listed a w
  | 0 => ⟨hr, h⟩
  | _ + 1 => ⟨fun _ => h, by rw [hr]; simp⟩
/-- The beginning. -/
theorem wpIn_region_R (d : Nat) {id : Nat} {a : Act} {w : World} (hm : P.follows .mixedOrders = true) (hS : S w.drew)
    (h : S w.drew → wpAnyR l P ops Q S d ops.size (Array.replicate ops.size false) a w.drew) : (Code.region id ops true).wpIn (Rn l) 0 P Q a w :=
  wpIn_region_any hm (wpAnyIn_of_R _ _ _ _ (h hS))
end
end Go.Proofs.Ytghblnldokpceaa.SeqW
/- exec.Group where the rows are counted, as a function. -/
namespace Go.Proofs.Ytghblnldokpceaa.QV
open Go.RowKit Go.Proofs.YtghblnldokpceaaW.PrintWords Go.Proofs.Ytghblnldokpceaa.SeqW Go.Shelf Go.Proofs.Ytghblnldokpceaa.Op
set_option linter.unusedVariables false
set_option linter.unusedSimpArgs false
attribute [local go_sem] Oper.semAt_some

theorem clone_ints_nil (w : World) : Calls Try.prog 37 #[.slice none 0 0] w fun e w' => e = .returned (.slice none 0 0) ∧ w' = w := by
  have hn := Lib.run_eql_slice_nil (P := Try.prog)
  go_enter Try.func37, Try.ntmps37
  go_wp2
  go_ret
  exact ⟨rfl, rfl⟩
abbrev kA : Kd S48 := k48
theorem infoA : (Try.prog.info? 48).map (fun i => (i.zero, i.size, i.bytes)) = some (some (.agg #[.int .i64 0, .int .i64 0]), 2, 16) := by kernel_rfl
theorem kA_KM {w W : World} {base : Nat} {ok : Nat → Prop} (x : S48) (cs : List Value) (h : kA.K w x cs) : kA.M W base ok x cs := by
  rw [k48_open h]; exact k48_mkM _ _ _ _
set_option maxHeartbeats 1000000 in
theorem clone_aggs (ad : Addr) (l : List S48) (c : Nat) (w : World) (hr : kA.C w (some ad) l.length l) (hc : l.length ≤ c) (hb : l.length * 16 ≤ 140737488355328) :
    Calls Try.prog 38 #[.slice (some ad) l.length c] w fun e w' => ∃ v, e = .returned v ∧ kA.R 48 w' w.heap.size (fun _ => True) v l ∧ Below w.heap.size w w' := by
  have hmax := hr.2.1
  have hn := Lib.run_eql_slice_nil (P := Try.prog)
  go_enter Try.func38, Try.ntmps38
  go_wp2_with (at_builtin; refine Kd.R_append_rows kA (w0 := w) w.heap.size rfl (.tmp 5) (.tmp 6) 36 48 _ 16 rfl Try.underlying36 infoA rfl (by decide) (by decide) (.slice (some ⟨w.heap.size, 0, none⟩) 0 0) [] l (some ad) l.length c (fun _ => True) (fun _ => False) rfl rfl (R_empty' kA _ _ _ _ (Nat.le_refl _) trivial) (Kd.C_below hr (below_alloc (Below.refl _ _) _)) (fun x cs h => kA_KM x cs h) (fun _ h => h.elim) (fun _ _ => trivial) (below_alloc (Below.refl _ _) _) (by simp) (by simp; omega) ?_; intro v1 w4 hv1 hB7 hg7 hat7; clear hg7 hat7)
  go_ret
  exact ⟨v1, rfl, by simpa using hv1, hB7⟩

set_option maxHeartbeats 2000000 in
theorem group_is1 (row : Row) (sv : Value) (ga : Nat) (w : World) (hR : IsSeq w sv [row]) (hga : ga < w.heap.size) (ha : kA.C w (some ⟨ga, 0, none⟩) 1 [⟨0, 0⟩]) (hb : row.length ≤ 1048576) :
    Calls Try.prog 16 #[sv, .slice none 0 0, .slice (some ⟨ga, 0, none⟩) 1 1] w fun e w' => ∃ v, e = .returned v ∧ IsOwn w' v [one1] ∧ Below w.heap.size w w' := by
  obtain ⟨gR, lbR, RdR, rfl, qR⟩ := hR
  have hR : IsSeq w (.func (.func gR) #[] lbR) [row] := ⟨gR, lbR, RdR, rfl, qR⟩
  clear qR
  go_enter Try.func16, Try.ntmps16
  go_wp2_with fail
  obtain ⟨w1, hw1⟩ : ∃ w1, ((w.alloc (.cells #[.func (.func gR) #[] lbR] 28)).alloc (.cells #[.slice none 0 0] 35)).alloc (.cells #[.slice (some ⟨ga, 0, none⟩) 1 1] 36) = w1 := ⟨_, rfl⟩
  rw [hw1]
  have hb1 : Below w.heap.size w w1 := by rw [← hw1]; exact below_alloc (below_alloc (below_alloc (Below.refl _ _) _) _) _
  have g0 : w1.heap[w.heap.size]? = some (.cells #[.func (.func gR) #[] lbR] 28 (0, 0)) := by rw [← hw1]; exact blk_alloc (blk_alloc (blk_new _ _) _) _
  have g1 : w1.heap[w.heap.size + 1]? = some (.cells #[.slice none 0 0] 35 (0, 0)) := by
    have := blk_new (w.alloc (.cells #[.func (.func gR) #[] lbR] 28)) (.cells #[.slice none 0 0] 35)
    rw [World.size_alloc] at this
    rw [← hw1]; exact blk_alloc this _
  have g2 : w1.heap[w.heap.size + 1 + 1]? = some (.cells #[.slice (some ⟨ga, 0, none⟩) 1 1] 36 (0, 0)) := by
    have := blk_new ((w.alloc (.cells #[.func (.func gR) #[] lbR] 28)).alloc (.cells #[.slice none 0 0] 35)) (.cells #[.slice (some ⟨ga, 0, none⟩) 1 1] 36)
    rw [World.size_alloc, World.size_alloc] at this
    rw [← hw1]; exact this
  clear hw1
  have hz1 := blk_lt g2
  have S0 : ∀ V, Below w1.heap.size w1 V → V.cell? ⟨w.heap.size + 1, 0, none⟩ = some (.slice none 0 0) ∧ V.cell? ⟨w.heap.size + 1 + 1, 0, none⟩ = some (.slice (some ⟨ga, 0, none⟩) 1 1) ∧ V.frozen? ⟨w.heap.size + 1, 0, none⟩ = false ∧ V.frozen? ⟨w.heap.size + 1 + 1, 0, none⟩ = false :=
    fun V hV => ⟨blk_cell (blk_below g1 hV) 0, blk_cell (blk_below g2 hV) 0, blk_frozen (blk_below g1 hV) 0, blk_frozen (blk_below g2 hV) 0⟩
  refine (wpIn_wide (n := 0)).1 ?_
  refine wpIn_region_R (l := 0) 5 (S := fun V => V.cell? ⟨w.heap.size + 1, 0, none⟩ = some (.slice none 0 0) ∧ V.cell? ⟨w.heap.size + 1 + 1, 0, none⟩ = some (.slice (some ⟨ga, 0, none⟩) 1 1) ∧ V.frozen? ⟨w.heap.size + 1, 0, none⟩ = false ∧ V.frozen? ⟨w.heap.size + 1 + 1, 0, none⟩ = false) (by kernel_rfl) (S0 _ (below_drew (Below.refl _ _))) (fun hS0 => ?_)
  refine wpAnyR_take (i := 0) (oi := ⟨some 7, _, _, _, _, _⟩) (v := ?_) (by kernel_rfl) (by kernel_rfl) rfl (by kernel_rfl) (by kernel_rfl) (by kernel_rfl) (fun _ _ _ h => h) (Or.inl ⟨by rfl, ?_⟩) (by assumption) ?_
  rotate_left
  · intro w hSw; (try dsimp only at hSw); (try go_split_ands); go_simp; (try (with_reducible rfl))
  (try simp only [Act.put, List.setIfInBounds_toArray, List.set_cons_zero, List.set_cons_succ])
  refine wpAnyR_take (i := 2) (oi := ⟨some 9, _, _, _, _, _⟩) (v := ?_) (by kernel_rfl) (by kernel_rfl) rfl (by kernel_rfl) (by kernel_rfl) (by kernel_rfl) (fun _ _ _ h => h) (Or.inl ⟨by rfl, ?_⟩) (by assumption) ?_
  rotate_left
  · intro w hSw; (try dsimp only at hSw); (try go_split_ands); go_simp; (try (with_reducible rfl))
  (try simp only [Act.put, List.setIfInBounds_toArray, List.set_cons_zero, List.set_cons_succ])
  refine wpAnyR_one (i := 1) (o := ⟨some 8, _, _, _, _, _⟩) (by kernel_rfl) (by kernel_rfl) rfl (fun K hK => ?_)
  go_simp
  refine (clone_ints_nil _).mono ?_
  rintro e w2 ⟨rfl, rfl⟩
  (try dsimp only)
  refine hK.out _ _ (.inr (S0 _ (below_drew (Below.refl _ _)))) ?_
  clear hK K
  (try simp only [Act.put, List.setIfInBounds_toArray, List.set_cons_zero, List.set_cons_succ])
  refine wpAnyR_one (i := 3) (o := ⟨some 10, _, _, _, _, _⟩) (by kernel_rfl) (by kernel_rfl) rfl (fun K hK => ?_)
  go_simp
  refine (clone_aggs ⟨ga, 0, none⟩ [⟨0, 0⟩] 1 _ (Kd.C_drew (Kd.C_below ha hb1)) (by simp) (by simp)).mono ?_
  rintro e w2 ⟨v2, rfl, hR2, hb2⟩
  have hb2' : Below w1.heap.size w1 w2 := (below_drew (Below.refl _ w1)).trans hb2
  (try dsimp only)
  refine hK.out _ _ (.inr (S0 _ hb2')) ?_
  clear hK K
  (try simp only [Act.put, List.setIfInBounds_toArray, List.set_cons_zero, List.set_cons_succ])
  obtain ⟨A3, c3', hv3, hle3, hC3⟩ := Kd.R_reads hR2
  obtain ⟨g3, c3, rfl, hg3b, hg3l, cells3, hcells3⟩ := Kd.R_form hR2 (by simp)
  have hg3b' : w1.heap.size ≤ g3 := hg3b
  injection hv3 with hA3
  subst hA3
  obtain ⟨ad3, cs3, hA3, _, hK3, hcs3⟩ := Kd.C_get hC3 ⟨0, 0⟩ 0 (by omega) (by simp)
  injection hA3 with hA3
  subst hA3
  have hop := k48_open hK3
  have e30 : w2.cell? ⟨g3, 0, none⟩ = some (.int .i64 0) := hcs3 0 _ (by rw [hop]; rfl)
  have e31 : w2.cell? ⟨g3, 1, none⟩ = some (.int .i64 0) := hcs3 1 _ (by rw [hop]; rfl)
  have hS2 := S0 _ hb2'
  obtain ⟨q1, q2, q3, q4⟩ := hS2
  refine wpAnyR_one (i := 4) (o := ⟨none, _, _, _, _, _⟩) (by kernel_rfl) (by kernel_rfl) rfl (fun K hK => ?_)
  go_simp
  obtain ⟨w3, hw3⟩ : ∃ w3, w2.setCell ⟨w.heap.size + 1, 0, none⟩ (.slice none 0 0) = w3 := ⟨_, rfl⟩
  rw [hw3]
  have hk3 : Seq.Kpt (fun i => i = w.heap.size + 1) w2 w3 := by rw [← hw3]; exact Seq.Kpt.setCell w2 ⟨w.heap.size + 1, 0, none⟩ _
  have g13 : w3.heap[w.heap.size + 1]? = some (.cells #[.slice none 0 0] 35 (0, 0)) := by rw [← hw3]; simpa using blk_set (blk_below g1 hb2') 0 (.slice none 0 0)
  have g23 : w3.heap[w.heap.size + 1 + 1]? = some (.cells #[.slice (some ⟨ga, 0, none⟩) 1 1] 36 (0, 0)) := hk3.at (blk_below g2 hb2') (by omega)
  clear hw3
  refine hK.out _ _ (.inr ⟨blk_cell g13 0, blk_cell g23 0, blk_frozen g13 0, blk_frozen g23 0⟩) ?_
  clear hK K
  (try simp only [Act.put, List.setIfInBounds_toArray, List.set_cons_zero, List.set_cons_succ])
  have t1 := blk_cell g23 0
  have t2 := blk_frozen g23 0
  refine wpAnyR_one (i := 5) (o := ⟨none, _, _, _, _, _⟩) (by kernel_rfl) (by kernel_rfl) rfl (fun K hK => ?_)
  go_simp
  refine hK.out _ _ (.inl rfl) ?_
  clear hK K
  (try simp only [Act.put, List.setIfInBounds_toArray, List.set_cons_zero, List.set_cons_succ])
  refine wpAnyR_done (by kernel_rfl) ?_ _
  go_wp2
  go_ret
  obtain ⟨w4, hw4⟩ : ∃ w4, w3.setCell ⟨w.heap.size + 1 + 1, 0, none⟩ (.slice (some ⟨g3, 0, none⟩) 1 c3') = w4 := ⟨_, rfl⟩
  rw [hw4]
  have hk4 : Seq.Kpt (fun i => i = w.heap.size + 1 + 1) w3 w4 := by rw [← hw4]; exact Seq.Kpt.setCell w3 ⟨w.heap.size + 1 + 1, 0, none⟩ _
  have g24 : w4.heap[w.heap.size + 1 + 1]? = some (.cells #[.slice (some ⟨g3, 0, none⟩) 1 c3'] 36 (0, 0)) := by rw [← hw4]; simpa using blk_set g23 0 (.slice (some ⟨g3, 0, none⟩) 1 c3')
  have g14 := hk4.at g13 (by omega)
  have g04 := hk4.at (hk3.at (blk_below g0 hb2') (by omega)) (by omega)
  have hg3 := hk4.at (hk3.at hcells3 (by omega)) (by omega)
  have hB4 : Below w.heap.size w w4 := (hb1.trans (hb2'.mono hb1.size)).trans ((hk3.trans hk4 (M := fun i => i = w.heap.size + 1 ∨ i = w.heap.size + 1 + 1) (fun _ _ h => h)).below (by have := hb2'.size; omega) (fun i _ h => by omega))
  refine ⟨_, rfl, ⟨_, _, rfl, fun args w => rfl, group_seq1 row _ _ _ _ g3 c3' w4 (hR.later hB4) (blk_cell g14 0) (blk_cell g04 0) (blk_cell g24 0) ?_ ?_ hb⟩, hB4⟩
  · rw [blk_cell hg3 0, ← blk_cell hcells3 0]; exact e30
  · rw [blk_cell hg3 1, ← blk_cell hcells3 1]; exact e31
end Go.Proofs.Ytghblnldokpceaa.QV
/- hayloftlaw15.alive. -/
namespace Go.Proofs.Ytghblnldokpceaa.QV
open Go.RowKit Go.Proofs.YtghblnldokpceaaW.PrintWords Go.Proofs.Ytghblnldokpceaa.Seq Go.Shelf Go.Proofs.Ytghblnldokpceaa.Op
set_option linter.unusedVariables false
set_option linter.unusedSimpArgs false

theorem C_one {α : Type} (d : Kd α) (w : World) (g : Nat) (x : α) (cs : List Value) (hK : d.K w x cs) (hc : ∀ i u, cs[i]? = some u → w.cell? ⟨g, i, none⟩ = some u) : d.C w (some ⟨g, 0, none⟩) 1 [x] := by
  refine ⟨rfl, by decide, fun _ => ⟨_, rfl, fun j p hj => ?_⟩⟩
  match j with
  | 0 =>
    simp at hj
    subst hj
    exact ⟨cs, d.K_len hK, hK, fun i u hu => by
      have := hc i u hu
      by_cases h0 : i = 0
      · subst h0; simpa [Addr.add] using this
      · simpa [Addr.add, h0] using this⟩
  | j + 1 => simp at hj
theorem IsSeq.form {w : World} {sv : Value} {xs : List Row} (h : IsSeq w sv xs) : ∃ g lb, sv = .func (.func g) #[] lb := by
  obtain ⟨g, lb, _, h, _⟩ := h
  exact ⟨g, lb, h⟩
def row2 : Row := [⟨2, false, 2, ⟨#[]⟩⟩]
theorem join_row2 : joinL [row2] [row2] 0 0 = [row2 ++ row2] := by
  have h : cmpV (toV ⟨2, false, 2, ⟨#[]⟩⟩) (toV ⟨2, false, 2, ⟨#[]⟩⟩) = 0 := cmpV_self _
  simp [joinL, joinOne, nzB, hitB, atS, row2, h]
/-- What an iterator whose rows are its consumer's own gives, gathered. -/
theorem all_is (sv : Value) (xs : List Row) (w0 w : World) (h : IsOwn w0 sv xs) (hb0 : Below w0.heap.size w0 w) (hx : ∀ x ∈ xs, x.length * 40 ≤ 140737488351232) (hn : xs.length * 24 ≤ 140737488351232) :
    Calls Try.prog 18 #[sv] w fun e w' => ∃ v, e = .returned v ∧ Kd.S kRows tRow w' w.heap.size (fun _ => True) v xs ∧ Below w.heap.size w w' := by
  obtain ⟨g, lb, rfl, eg, hs⟩ := h
  exact all_any g lb xs w0 w eg hs hb0 hx hn

set_option maxRecDepth 100000 in
set_option maxHeartbeats 4000000 in
theorem aliveX_any (w : World) : Calls Try.prog 9 #[] w fun e w' => e = .returned (.bool true) ∧ Below w.heap.size w w' := by
  obtain ⟨kc, hkc⟩ := copied_f [row2] (by simp) (by simp [row2])
  have hj2 := join_row2
  go_enter Try.func9, Try.ntmps9
  go_wp2_with fail
  obtain ⟨w1, hw1⟩ : ∃ w1, (w.alloc (.cells #[.int .i64 2, .bool false, .int .i64 2, .string ⟨#[]⟩] 42)).alloc (.cells #[.slice (some ⟨w.heap.size, 0, none⟩) 1 1] 31) = w1 := ⟨_, rfl⟩
  rw [hw1]
  have hb1 : Below w.heap.size w w1 := by rw [← hw1]; exact below_alloc (below_alloc (Below.refl _ _) _) _
  have g0 : w1.heap[w.heap.size]? = some (.cells #[.int .i64 2, .bool false, .int .i64 2, .string ⟨#[]⟩] 42 (0, 0)) := by rw [← hw1]; exact blk_alloc (blk_new _ _) _
  have g1 : w1.heap[w.heap.size + 1]? = some (.cells #[.slice (some ⟨w.heap.size, 0, none⟩) 1 1] 31 (0, 0)) := by
    have := blk_new (w.alloc (.cells #[.int .i64 2, .bool false, .int .i64 2, .string ⟨#[]⟩] 42)) (.cells #[.slice (some ⟨w.heap.size, 0, none⟩) 1 1] 31)
    rw [World.size_alloc] at this
    rw [← hw1]; exact this
  clear hw1
  have hr0 : kS.C w1 (some ⟨w.heap.size, 0, none⟩) 1 row2 := C_one kS w1 w.heap.size _ _ (k42_mk w1 ⟨2, false, 2, ⟨#[]⟩⟩) (fun i u hu => by rw [blk_cell g0 i]; simpa using hu)
  have hr1 : kRows.C w1 (some ⟨w.heap.size + 1, 0, none⟩) [row2].length [row2] := C_one kRows w1 (w.heap.size + 1) row2 [.slice (some ⟨w.heap.size, 0, none⟩) row2.length 1] ⟨_, _, rfl, by simp [row2], hr0⟩ (fun i u hu => by rw [blk_cell g1 i]; simpa [row2] using hu)
  -- exec.Join
  refine (values_is _ [row2] 1 w1 hr1).mono ?_
  rintro e w2 ⟨v2, rfl, hs2, hb2⟩
  obtain ⟨f2, l2, rfl⟩ := hs2.form
  have hB2 := hb1.trans (hb2.mono hb1.size)
  go_wp2_with fail
  refine (hayloftlaw15_copied.calls kc _ 1 [row2] [row2] w2 (Kd.C_below hr1 hb2) (by simp) hkc).mono ?_
  rintro e w3 ⟨v3, rfl, hS3, hb3⟩
  have hB3 := hB2.trans (hb3.mono hB2.size)
  obtain ⟨A3, c3, rfl, hle3, hC3⟩ := Kd.S_reads hS3
  go_wp2_with fail
  refine (values_is A3 [row2] c3 w3 hC3).mono ?_
  rintro e w4 ⟨v4, rfl, hs4, hb4⟩
  obtain ⟨f4, l4, rfl⟩ := hs4.form
  have hB4 := hB3.trans (hb4.mono hB3.size)
  go_wp2_with fail
  refine (join_is [row2] [row2] 0 0 _ _ w4 ((hs2.later hb3).later hb4) hs4 (by simp [row2]) (by simp [row2]) (by simp)).mono ?_
  rintro e w5 ⟨v5, rfl, hs5, hb5⟩
  rw [hj2] at hs5
  obtain ⟨f5, l5, rfl⟩ := hs5.seq.form
  have hB5 := hB4.trans (hb5.mono hB4.size)
  go_wp2_with fail
  refine (all_is _ [row2 ++ row2] w5 w5 hs5 (Below.refl _ _) (by simp [row2]) (by simp)).mono ?_
  rintro e w6 ⟨v6, rfl, hS6, hb6⟩
  have hB6 := hB5.trans (hb6.mono hB5.size)
  obtain ⟨A6, c6, rfl, hle6, hC6⟩ := Kd.S_reads hS6
  go_wp2_with fail
  -- exec.Group
  have hb16 : Below w1.heap.size w1 w6 := (((hb2.trans (hb3.mono hb2.size)).trans (hb4.mono (by have := hb2.size; have := hb3.size; omega))).trans (hb5.mono (by have := hb2.size; have := hb3.size; have := hb4.size; omega))).trans (hb6.mono (by have := hb2.size; have := hb3.size; have := hb4.size; have := hb5.size; omega))
  refine (hayloftlaw15_copied.calls kc _ 1 [row2] [row2] w6 (Kd.C_below hr1 hb16) (by simp) hkc).mono ?_
  rintro e w7 ⟨v7, rfl, hS7, hb7⟩
  have hB7 := hB6.trans (hb7.mono hB6.size)
  obtain ⟨A7, c7, rfl, hle7, hC7⟩ := Kd.S_reads hS7
  go_wp2_with fail
  refine (values_is A7 [row2] c7 w7 hC7).mono ?_
  rintro e w8 ⟨v8, rfl, hs8, hb8⟩
  obtain ⟨f8, l8, rfl⟩ := hs8.form
  have hB8 := hB7.trans (hb8.mono hB7.size)
  go_wp2_with fail
  obtain ⟨w9, hw9⟩ : ∃ w9, w8.alloc (.cells #[.int .i64 0, .int .i64 0] 48) = w9 := ⟨_, rfl⟩
  rw [hw9]
  have hb9 : Below w8.heap.size w8 w9 := by rw [← hw9]; exact below_alloc (Below.refl _ _) _
  have g9 : w9.heap[w8.heap.size]? = some (.cells #[.int .i64 0, .int .i64 0] 48 (0, 0)) := by rw [← hw9]; exact blk_new _ _
  clear hw9
  have hB9 := hB8.trans (hb9.mono hB8.size)
  refine (group_is1 row2 _ w8.heap.size w9 (hs8.later hb9) (blk_lt g9) (C_one kA w9 w8.heap.size ⟨0, 0⟩ _ (k48_mk w9 ⟨0, 0⟩) (fun i u hu => by rw [blk_cell g9 i]; simpa using hu)) (by simp [row2])).mono ?_
  rintro e w10 ⟨v10, rfl, hs10, hb10⟩
  obtain ⟨f10, l10, rfl⟩ := hs10.seq.form
  have hB10 := hB9.trans (hb10.mono hB9.size)
  go_wp2_with fail
  refine (all_is _ [one1] w10 w10 hs10 (Below.refl _ _) (by simp [one1]) (by simp)).mono ?_
  rintro e w11 ⟨v11, rfl, hS11, hb11⟩
  have hB11 := hB10.trans (hb11.mono hB10.size)
  obtain ⟨A11, c11, rfl, hle11, hC11⟩ := Kd.S_reads hS11
  have hb611 : Below w6.heap.size w6 w11 := ((((hb7.trans (hb8.mono hb7.size)).trans (hb9.mono (by have := hb7.size; have := hb8.size; omega))).trans (hb10.mono (by have := hb7.size; have := hb8.size; have := hb9.size; omega))).trans (hb11.mono (by have := hb7.size; have := hb8.size; have := hb9.size; have := hb10.size; omega)))
  obtain ⟨ad, cs, rfl, _, ⟨Ax, cx, rfl, hlex, hCx⟩, hcs⟩ := Kd.C_get (Kd.C_below hC6 hb611) [] 0 (by omega) (by simp)
  obtain ⟨am, cm, rfl, _, ⟨Ay, cy, rfl, hley, hCy⟩, hcm⟩ := Kd.C_get hC11 [] 0 (by omega) (by simp)
  obtain ⟨ay, cn, rfl, _, hKy, hcn⟩ := Kd.C_get hCy zV 0 (by omega) (by simp [one1])
  have hop := k42_open hKy
  have m0 := hcs 0 _ rfl
  have m1 := hcm 0 _ rfl
  have m2 := hcn 2 (.int .i64 1) (by rw [hop]; rfl)
  have z0 : ∀ a : Addr, a.add 0 = a := fun a => by cases a; simp [Addr.add]
  have m0' : w11.cell? ad = some (.slice Ax 2 cx) := by rw [← z0 ad]; exact m0
  have m1' : w11.cell? am = some (.slice (some ay) 1 cy) := by rw [← z0 am]; exact m1
  have m2' : w11.cell? ⟨ay.block, ay.off + 2, none⟩ = some (.int .i64 1) := by
    have := add_field ay 0 2 (by omega)
    rw [z0] at this
    rw [← this]; exact m2
  clear m0 m1 m2 hcs hcm hcn
  go_wp2_with fail
  go_ret
  exact ⟨rfl, hB11⟩
end Go.Proofs.Ytghblnldokpceaa.QV
/- ExecSwaps: plain facts of joins. -/
namespace Go.Proofs.Ytghblnldokpceaa.QV
open Go.RowKit Go.Proofs.YtghblnldokpceaaW.PrintWords Go.Proofs.Ytghblnldokpceaa.Op
set_option linter.unusedVariables false
set_option linter.unusedSimpArgs false
theorem okJ_swap (lo ro : Int) (x y : Row) : okJ lo ro x y = okJ ro lo y x := by
  have h := cmpV_swap (toV (atS x lo)) (toV (atS y ro))
  have e : decide (cmpV (toV (atS x lo)) (toV (atS y ro)) = 0) = decide (cmpV (toV (atS y ro)) (toV (atS x lo)) = 0) := by
    apply decide_eq_decide.2
    omega
  unfold okJ
  rw [e]
  cases ((atS x lo).f0 != 0) <;> cases ((atS y ro).f0 != 0) <;> simp
theorem joinL_ok (left right : List Row) (lo ro : Int) : joinL left right lo ro = left.flatMap (fun x => (right.filter (okJ lo ro x)).map (x ++ ·)) := by
  unfold joinL
  congr 1
  funext x
  exact joinOne_ok lo ro right x
theorem joinL_cons (x : Row) (left right : List Row) (lo ro : Int) : joinL (x :: left) right lo ro = (right.filter (okJ lo ro x)).map (x ++ ·) ++ joinL left right lo ro := by
  rw [joinL_ok, joinL_ok, List.flatMap_cons]
theorem joinL_right (x : Row) (left right : List Row) (lo ro : Int) : (joinL left (x :: right) lo ro).length = (left.filter (fun y => okJ lo ro y x)).length + (joinL left right lo ro).length := by
  induction left with
  | nil => simp [joinL]
  | cons y left ih =>
    rw [joinL_cons, joinL_cons, List.length_append, List.length_append, ih, List.filter_cons, List.filter_cons]
    cases okJ lo ro y x <;> simp <;> omega
theorem joinL_swap (left right : List Row) (lo ro : Int) : (joinL left right lo ro).length = (joinL right left ro lo).length := by
  induction left with
  | nil =>
    have : joinL right [] ro lo = [] := by rw [joinL_ok]; simp
    rw [this]; simp [joinL]
  | cons x left ih =>
    rw [joinL_cons, joinL_right, List.length_append, List.length_map, ih]
    congr 2
    refine List.filter_congr (fun y _ => ?_)
    exact okJ_swap lo ro x y
/-- What has come when the walk stands at row i of left and row j of right. -/
def swP (left right : List Row) (lo ro : Int) (i j : Nat) : List Row := joinL (left.take i) right lo ro ++ ((right.take j).filter (okJ lo ro (left.getD i []))).map (left.getD i [] ++ ·)
theorem swP_zero (left right : List Row) (lo ro : Int) (i : Nat) : swP left right lo ro i 0 = joinL (left.take i) right lo ro := by simp [swP]
theorem joinL_app (a b right : List Row) (lo ro : Int) : joinL (a ++ b) right lo ro = joinL a right lo ro ++ joinL b right lo ro := by simp [joinL]
theorem swP_full (left right : List Row) (lo ro : Int) (i : Nat) (hi : i < left.length) : swP left right lo ro i right.length = joinL (left.take (i + 1)) right lo ro := by
  rw [swP, List.take_length, ← take_snoc' ([] : Row) left i hi, joinL_app, joinL_cons]
  simp [joinL]
theorem swP_succ (left right : List Row) (lo ro : Int) (i j : Nat) (hj : j < right.length) : swP left right lo ro i (j + 1) = if okJ lo ro (left.getD i []) (right.getD j []) = true then swP left right lo ro i j ++ [left.getD i [] ++ right.getD j []] else swP left right lo ro i j := by
  unfold swP
  rw [← take_snoc' ([] : Row) right j hj, filter_snoc]
  split
  · simp [List.append_assoc]
  · rfl
theorem swP_prefix (left right : List Row) (lo ro : Int) (i j : Nat) (hi : i < left.length) (hj : j ≤ right.length) : swP left right lo ro i j <+: joinL left right lo ro := by
  have h1 : swP left right lo ro i j <+: swP left right lo ro i right.length := by
    unfold swP
    rw [List.take_length]
    exact (List.prefix_append_right_inj _).2 (((List.take_prefix _ _).filter _).map _)
  rw [swP_full left right lo ro i hi] at h1
  refine h1.trans ?_
  conv => rhs; rw [← List.take_append_drop (i + 1) left]
  rw [joinL_app]
  exact List.prefix_append _ _
/-- The next joined row lies where it is looked for. -/
theorem swP_next (left right : List Row) (lo ro : Int) (i j : Nat) (hi : i < left.length) (hj : j < right.length) (ho : okJ lo ro (left.getD i []) (right.getD j []) = true) :
    (swP left right lo ro i j).length < (joinL left right lo ro).length ∧ (joinL left right lo ro).getD (swP left right lo ro i j).length [] = left.getD i [] ++ right.getD j [] := by
  have h := swP_prefix left right lo ro i (j + 1) hi hj
  rw [swP_succ left right lo ro i j hj, if_pos ho] at h
  obtain ⟨t, ht⟩ := h
  rw [← ht]
  constructor
  · simp only [List.length_append, List.length_cons, List.length_nil]; omega
  · simp [List.getD_eq_getElem?_getD]
end Go.Proofs.Ytghblnldokpceaa.QV
/- ExecSwaps: the walk. -/
namespace Go.Proofs.Ytghblnldokpceaa.QV
open Go.RowKit Go.Proofs.YtghblnldokpceaaW.PrintWords Go.Proofs.Ytghblnldokpceaa.SeqW Go.Shelf Go.Proofs.Ytghblnldokpceaa.Op
set_option linter.unusedVariables false
set_option linter.unusedSimpArgs false
theorem btr' {a b c : World} (h : Below a.heap.size a b) (k : Below b.heap.size b c) : Below a.heap.size a c := h.trans (k.mono h.size)

/-- What two ways have before them is shown once. -/
theorem share {Hyp : World → Nat → Prop} {G : Prop} (Q : Exit → Act → World → Prop) (f : Nat → Act) (h2 : (∀ W b, Hyp W b → Q .normal (f b) W) → G) (h1 : ∀ W b, Hyp W b → Q .normal (f b) W) : G := h2 h1

set_option maxRecDepth 100000 in
set_option maxHeartbeats 40000000 in
theorem walkSwaps (A0 : Option Addr) (c0 : Nat) (x0 : List Row) (A1 : Option Addr) (c1 : Nat) (x1 : List Row) (lo ro : Int) (w : World) (H0 : kRows.C w A0 x0.length x0) (C0 : x0.length ≤ c0) (H1 : kRows.C w A1 x1.length x1) (C1 : x1.length ≤ c1)
    (hL : ∀ x ∈ x0, x.length ≤ 1048576) (hR : ∀ x ∈ x1, x.length ≤ 1048576) :
    Calls Try.prog 5 #[.slice A0 x0.length c0, .slice A1 x1.length c1, .agg #[.int .i64 lo, .int .i64 ro]] w fun e w' => e = .returned (.bool true) ∧ Below w.heap.size w w' := by
  by_cases h0 : x0.length > 1000
  · have d0 : decide ((1000 : Int) < (x0.length : Int)) = true := decide_eq_true (by omega)
    go_enter Try.func5, Try.ntmps5
    go_wp2_with fail
    refine (aliveX_any _).mono ?_
    rintro e w2 ⟨rfl, hb2⟩
    go_wp2_with fail
    go_ret
    exact ⟨rfl, (below_alloc (Below.refl _ _) _).trans (hb2.mono (by simp))⟩
  · have d0 : decide ((1000 : Int) < (x0.length : Int)) = false := decide_eq_false (by omega)
    by_cases h1 : x1.length > 1000
    · have d1 : decide ((1000 : Int) < (x1.length : Int)) = true := decide_eq_true (by omega)
      go_enter Try.func5, Try.ntmps5
      go_wp2_with fail
      refine (aliveX_any _).mono ?_
      rintro e w2 ⟨rfl, hb2⟩
      go_wp2_with fail
      go_ret
      exact ⟨rfl, (below_alloc (Below.refl _ _) _).trans (hb2.mono (by simp))⟩
    · have d1 : decide ((1000 : Int) < (x1.length : Int)) = false := decide_eq_false (by omega)
      obtain ⟨k0, hk0⟩ := copied_f x0 (by omega) (fun x hx => by have := hL x hx; omega)
      obtain ⟨k1, hk1⟩ := copied_f x1 (by omega) (fun x hx => by have := hR x hx; omega)
      have hjl : (joinL x0 x1 lo ro).length ≤ 1000 * 1000 := Nat.le_trans (joinL_len x0 x1 lo ro) (Nat.mul_le_mul (by omega) (by omega))
      have hjr := joinL_rows x0 x1 lo ro hL hR
      have hjl2 : (joinL x1 x0 ro lo).length ≤ 1000 * 1000 := Nat.le_trans (joinL_len x1 x0 ro lo) (Nat.mul_le_mul (by omega) (by omega))
      have hjr2 := joinL_rows x1 x0 ro lo hR hL
      have hsw := joinL_swap x0 x1 lo ro
      go_enter Try.func5, Try.ntmps5
      go_wp2_with fail
      have hb1 : Below w.heap.size w (w.alloc (.cells #[.int .i64 lo, .int .i64 ro] 23)) := below_alloc (Below.refl _ _) _
      have g5 := blk_new w (.cells #[.int .i64 lo, .int .i64 ro] 23)
      generalize w.alloc (.cells #[.int .i64 lo, .int .i64 ro] 23) = w1 at hb1 g5 ⊢
      have S0 : ∀ V, Below w1.heap.size w1 V → V.cell? ⟨w.heap.size, 0, none⟩ = some (.int .i64 lo) ∧ V.cell? ⟨w.heap.size, 1, none⟩ = some (.int .i64 ro) := fun V hV => ⟨blk_cell (blk_below g5 hV) 0, blk_cell (blk_below g5 hV) 1⟩
      have hd : Below w1.heap.size w1 w1.drew := below_drew (Below.refl _ _)
      refine (wpIn_wide (n := 0)).1 ?_
      refine wpIn_region_R (l := 0) 13 (S := fun V => V.cell? ⟨w.heap.size, 0, none⟩ = some (.int .i64 lo) ∧ V.cell? ⟨w.heap.size, 1, none⟩ = some (.int .i64 ro)) (by kernel_rfl) (S0 _ hd) (fun hS0 => ?_)
      refine wpAnyR_take (i := 0) (oi := ⟨some 23, _, _, _, _, _⟩) (v := ?_) (by kernel_rfl) (by kernel_rfl) rfl (by kernel_rfl) (by kernel_rfl) (by kernel_rfl) (fun _ _ _ h => h) (Or.inl ⟨by rfl, ?_⟩) (by assumption) ?_
      rotate_left
      · intro w hSw; (try dsimp only at hSw); (try go_split_ands); go_simp; (try (with_reducible rfl))
      (try simp only [Act.put, List.setIfInBounds_toArray, List.set_cons_zero, List.set_cons_succ])
      refine wpAnyR_take (i := 3) (oi := ⟨some 26, _, _, _, _, _⟩) (v := ?_) (by kernel_rfl) (by kernel_rfl) rfl (by kernel_rfl) (by kernel_rfl) (by kernel_rfl) (fun _ _ _ h => h) (Or.inl ⟨by rfl, ?_⟩) (by assumption) ?_
      rotate_left
      · intro w hSw; (try dsimp only at hSw); (try go_split_ands); go_simp; (try (with_reducible rfl))
      (try simp only [Act.put, List.setIfInBounds_toArray, List.set_cons_zero, List.set_cons_succ])
      refine wpAnyR_take (i := 6) (oi := ⟨some 29, _, _, _, _, _⟩) (v := ?_) (by kernel_rfl) (by kernel_rfl) rfl (by kernel_rfl) (by kernel_rfl) (by kernel_rfl) (fun _ _ _ h => h) (Or.inl ⟨by rfl, ?_⟩) (by assumption) ?_
      rotate_left
      · intro w hSw; (try dsimp only at hSw); (try go_split_ands); go_simp; (try (with_reducible rfl))
      (try simp only [Act.put, List.setIfInBounds_toArray, List.set_cons_zero, List.set_cons_succ])
      refine wpAnyR_take (i := 7) (oi := ⟨some 30, _, _, _, _, _⟩) (v := ?_) (by kernel_rfl) (by kernel_rfl) rfl (by kernel_rfl) (by kernel_rfl) (by kernel_rfl) (fun _ _ _ h => h) (Or.inl ⟨by rfl, ?_⟩) (by assumption) ?_
      rotate_left
      · intro w hSw; (try dsimp only at hSw); (try go_split_ands); go_simp; (try (with_reducible rfl))
      (try simp only [Act.put, List.setIfInBounds_toArray, List.set_cons_zero, List.set_cons_succ])
      refine wpAnyR_take (i := 8) (oi := ⟨some 31, _, _, _, _, _⟩) (v := ?_) (by kernel_rfl) (by kernel_rfl) rfl (by kernel_rfl) (by kernel_rfl) (by kernel_rfl) (fun _ _ _ h => h) (Or.inl ⟨by rfl, ?_⟩) (by assumption) ?_
      rotate_left
      · intro w hSw; (try dsimp only at hSw); (try go_split_ands); go_simp; (try (with_reducible rfl))
      (try simp only [Act.put, List.setIfInBounds_toArray, List.set_cons_zero, List.set_cons_succ])
      refine wpAnyR_take (i := 9) (oi := ⟨some 32, _, _, _, _, _⟩) (v := ?_) (by kernel_rfl) (by kernel_rfl) rfl (by kernel_rfl) (by kernel_rfl) (by kernel_rfl) (fun _ _ _ h => h) (Or.inl ⟨by rfl, ?_⟩) (by assumption) ?_
      rotate_left
      · intro w hSw; (try dsimp only at hSw); (try go_split_ands); go_simp; (try (with_reducible rfl))
      (try simp only [Act.put, List.setIfInBounds_toArray, List.set_cons_zero, List.set_cons_succ])
      refine wpAnyR_one (i := 1) (o := ⟨some 24, _, _, _, _, _⟩) (by kernel_rfl) (by kernel_rfl) rfl (fun K hK => ?_)
      go_simp
      refine (hayloftlaw15_copied.calls k0 A0 c0 x0 x0 _ (Kd.C_drew (Kd.C_below H0 hb1)) C0 hk0).mono ?_
      rintro e w2 ⟨v2, rfl, hS2, hb2⟩
      obtain ⟨B2, n2, rfl, hle2, hC2⟩ := Kd.S_reads hS2
      have hb12 := btr' hd hb2
      (try dsimp only)
      refine hK.out _ _ (.inr (S0 _ hb12)) ?_
      clear hK K
      (try simp only [Act.put, List.setIfInBounds_toArray, List.set_cons_zero, List.set_cons_succ])
      refine wpAnyR_one (i := 2) (o := ⟨some 25, _, _, _, _, _⟩) (by kernel_rfl) (by kernel_rfl) rfl (fun K hK => ?_)
      go_simp
      refine (values_is B2 x0 n2 _ hC2).mono ?_
      rintro e w3 ⟨v3, rfl, hs3, hb3⟩
      obtain ⟨f3, l3, rfl⟩ := hs3.form
      have hb13 := btr' hb12 hb3
      (try dsimp only)
      refine hK.out _ _ (.inr (S0 _ hb13)) ?_
      clear hK K
      (try simp only [Act.put, List.setIfInBounds_toArray, List.set_cons_zero, List.set_cons_succ])
      refine wpAnyR_one (i := 4) (o := ⟨some 27, _, _, _, _, _⟩) (by kernel_rfl) (by kernel_rfl) rfl (fun K hK => ?_)
      go_simp
      refine (hayloftlaw15_copied.calls k1 A1 c1 x1 x1 _ (Kd.C_below H1 (btr' hb1 hb13)) C1 hk1).mono ?_
      rintro e w4 ⟨v4, rfl, hS4, hb4⟩
      obtain ⟨B4, n4, rfl, hle4, hC4⟩ := Kd.S_reads hS4
      have hb14 := btr' hb13 hb4
      (try dsimp only)
      refine hK.out _ _ (.inr (S0 _ hb14)) ?_
      clear hK K
      (try simp only [Act.put, List.setIfInBounds_toArray, List.set_cons_zero, List.set_cons_succ])
      refine wpAnyR_one (i := 5) (o := ⟨some 28, _, _, _, _, _⟩) (by kernel_rfl) (by kernel_rfl) rfl (fun K hK => ?_)
      go_simp
      refine (values_is B4 x1 n4 _ hC4).mono ?_
      rintro e w5 ⟨v5, rfl, hs5, hb5⟩
      obtain ⟨f5, l5, rfl⟩ := hs5.form
      have hb15 := btr' hb14 hb5
      (try dsimp only)
      refine hK.out _ _ (.inr (S0 _ hb15)) ?_
      clear hK K
      (try simp only [Act.put, List.setIfInBounds_toArray, List.set_cons_zero, List.set_cons_succ])
      refine wpAnyR_one (i := 10) (o := ⟨some 33, _, _, _, _, _⟩) (by kernel_rfl) (by kernel_rfl) rfl (fun K hK => ?_)
      go_simp
      refine (join_is x0 x1 lo ro _ _ w5 ((hs3.later hb4).later hb5) hs5 hR hL (by omega)).mono ?_
      rintro e w6 ⟨v6, rfl, hs6, hb6⟩
      obtain ⟨f6, l6, rfl⟩ := hs6.seq.form
      have hb16 := btr' hb15 hb6
      (try dsimp only)
      refine hK.out _ _ (.inr (S0 _ hb16)) ?_
      clear hK K
      (try simp only [Act.put, List.setIfInBounds_toArray, List.set_cons_zero, List.set_cons_succ])
      refine wpAnyR_one (i := 11) (o := ⟨some 34, _, _, _, _, _⟩) (by kernel_rfl) (by kernel_rfl) rfl (fun K hK => ?_)
      go_simp
      refine (all_is _ _ w6 w6 hs6 (Below.refl _ _) (fun x hx => by have := hjr x hx; omega) (by omega)).mono ?_
      rintro e w7 ⟨v7, rfl, hS7, hb7⟩
      obtain ⟨B7, n7, rfl, hle7, hC7⟩ := Kd.S_reads hS7
      have hb17 := btr' hb16 hb7
      (try dsimp only)
      refine hK.out _ _ (.inr (S0 _ hb17)) ?_
      clear hK K
      (try simp only [Act.put, List.setIfInBounds_toArray, List.set_cons_zero, List.set_cons_succ])
      have hS07 := S0 _ hb17
      refine wpAnyR_take (i := 12) (oi := ⟨some 7, _, _, _, _, _⟩) (v := ?_) (by kernel_rfl) (by kernel_rfl) rfl (by kernel_rfl) (by kernel_rfl) (by kernel_rfl) (fun _ _ _ h => h) (Or.inl ⟨by rfl, ?_⟩) (by assumption) ?_
      rotate_left
      · intro w hSw; (try dsimp only at hSw); (try go_split_ands); go_simp; (try (with_reducible rfl))
      (try simp only [Act.put, List.setIfInBounds_toArray, List.set_cons_zero, List.set_cons_succ])
      refine wpAnyR_done (by kernel_rfl) ?_ _
      go_wp2_with fail
      have hd7 : Below w1.heap.size w1 w7.drew := btr' hb17 (below_drew (Below.refl _ _))
      refine (wpIn_wide (n := 0)).1 ?_
      refine wpIn_region_R (l := 0) 13 (S := fun V => V.cell? ⟨w.heap.size, 0, none⟩ = some (.int .i64 lo) ∧ V.cell? ⟨w.heap.size, 1, none⟩ = some (.int .i64 ro)) (by kernel_rfl) (S0 _ hd7) (fun hS0' => ?_)
      refine wpAnyR_take (i := 0) (oi := ⟨some 35, _, _, _, _, _⟩) (v := ?_) (by kernel_rfl) (by kernel_rfl) rfl (by kernel_rfl) (by kernel_rfl) (by kernel_rfl) (fun _ _ _ h => h) (Or.inl ⟨by rfl, ?_⟩) (by assumption) ?_
      rotate_left
      · intro w hSw; (try dsimp only at hSw); (try go_split_ands); go_simp; (try (with_reducible rfl))
      (try simp only [Act.put, List.setIfInBounds_toArray, List.set_cons_zero, List.set_cons_succ])
      refine wpAnyR_take (i := 3) (oi := ⟨some 38, _, _, _, _, _⟩) (v := ?_) (by kernel_rfl) (by kernel_rfl) rfl (by kernel_rfl) (by kernel_rfl) (by kernel_rfl) (fun _ _ _ h => h) (Or.inl ⟨by rfl, ?_⟩) (by assumption) ?_
      rotate_left
      · intro w hSw; (try dsimp only at hSw); (try go_split_ands); go_simp; (try (with_reducible rfl))
      (try simp only [Act.put, List.setIfInBounds_toArray, List.set_cons_zero, List.set_cons_succ])
      refine wpAnyR_take (i := 6) (oi := ⟨some 41, _, _, _, _, _⟩) (v := ?_) (by kernel_rfl) (by kernel_rfl) rfl (by kernel_rfl) (by kernel_rfl) (by kernel_rfl) (fun _ _ _ h => h) (Or.inl ⟨by rfl, ?_⟩) (by assumption) ?_
      rotate_left
      · intro w hSw; (try dsimp only at hSw); (try go_split_ands); go_simp; (try (with_reducible rfl))
      (try simp only [Act.put, List.setIfInBounds_toArray, List.set_cons_zero, List.set_cons_succ])
      refine wpAnyR_take (i := 7) (oi := ⟨some 42, _, _, _, _, _⟩) (v := ?_) (by kernel_rfl) (by kernel_rfl) rfl (by kernel_rfl) (by kernel_rfl) (by kernel_rfl) (fun _ _ _ h => h) (Or.inl ⟨by rfl, ?_⟩) (by assumption) ?_
      rotate_left
      · intro w hSw; (try dsimp only at hSw); (try go_split_ands); go_simp; (try (with_reducible rfl))
      (try simp only [Act.put, List.setIfInBounds_toArray, List.set_cons_zero, List.set_cons_succ])
      refine wpAnyR_take (i := 8) (oi := ⟨some 43, _, _, _, _, _⟩) (v := ?_) (by kernel_rfl) (by kernel_rfl) rfl (by kernel_rfl) (by kernel_rfl) (by kernel_rfl) (fun _ _ _ h => h) (Or.inl ⟨by rfl, ?_⟩) (by assumption) ?_
      rotate_left
      · intro w hSw; (try dsimp only at hSw); (try go_split_ands); go_simp; (try (with_reducible rfl))
      (try simp only [Act.put, List.setIfInBounds_toArray, List.set_cons_zero, List.set_cons_succ])
      refine wpAnyR_take (i := 9) (oi := ⟨some 44, _, _, _, _, _⟩) (v := ?_) (by kernel_rfl) (by kernel_rfl) rfl (by kernel_rfl) (by kernel_rfl) (by kernel_rfl) (fun _ _ _ h => h) (Or.inl ⟨by rfl, ?_⟩) (by assumption) ?_
      rotate_left
      · intro w hSw; (try dsimp only at hSw); (try go_split_ands); go_simp; (try (with_reducible rfl))
      (try simp only [Act.put, List.setIfInBounds_toArray, List.set_cons_zero, List.set_cons_succ])
      refine wpAnyR_one (i := 1) (o := ⟨some 36, _, _, _, _, _⟩) (by kernel_rfl) (by kernel_rfl) rfl (fun K hK => ?_)
      go_simp
      refine (hayloftlaw15_copied.calls k1 A1 c1 x1 x1 _ (Kd.C_below H1 (btr' hb1 hd7)) C1 hk1).mono ?_
      rintro e u2 ⟨v2, rfl, hT2, he2⟩
      obtain ⟨D2, m2, rfl, hme2, hD2⟩ := Kd.S_reads hT2
      have he12 := btr' hd7 he2
      (try dsimp only)
      refine hK.out _ _ (.inr (S0 _ he12)) ?_
      clear hK K
      (try simp only [Act.put, List.setIfInBounds_toArray, List.set_cons_zero, List.set_cons_succ])
      refine wpAnyR_one (i := 2) (o := ⟨some 37, _, _, _, _, _⟩) (by kernel_rfl) (by kernel_rfl) rfl (fun K hK => ?_)
      go_simp
      refine (values_is D2 x1 m2 _ hD2).mono ?_
      rintro e u3 ⟨v3, rfl, ht3, he3⟩
      obtain ⟨f3', l3', rfl⟩ := ht3.form
      have he13 := btr' he12 he3
      (try dsimp only)
      refine hK.out _ _ (.inr (S0 _ he13)) ?_
      clear hK K
      (try simp only [Act.put, List.setIfInBounds_toArray, List.set_cons_zero, List.set_cons_succ])
      refine wpAnyR_one (i := 4) (o := ⟨some 39, _, _, _, _, _⟩) (by kernel_rfl) (by kernel_rfl) rfl (fun K hK => ?_)
      go_simp
      refine (hayloftlaw15_copied.calls k0 A0 c0 x0 x0 _ (Kd.C_below H0 (btr' hb1 he13)) C0 hk0).mono ?_
      rintro e u4 ⟨v4, rfl, hT4, he4⟩
      obtain ⟨D4, m4, rfl, hme4, hD4⟩ := Kd.S_reads hT4
      have he14 := btr' he13 he4
      (try dsimp only)
      refine hK.out _ _ (.inr (S0 _ he14)) ?_
      clear hK K
      (try simp only [Act.put, List.setIfInBounds_toArray, List.set_cons_zero, List.set_cons_succ])
      refine wpAnyR_one (i := 5) (o := ⟨some 40, _, _, _, _, _⟩) (by kernel_rfl) (by kernel_rfl) rfl (fun K hK => ?_)
      go_simp
      refine (values_is D4 x0 m4 _ hD4).mono ?_
      rintro e u5 ⟨v5, rfl, ht5, he5⟩
      obtain ⟨f5', l5', rfl⟩ := ht5.form
      have he15 := btr' he14 he5
      (try dsimp only)
      refine hK.out _ _ (.inr (S0 _ he15)) ?_
      clear hK K
      (try simp only [Act.put, List.setIfInBounds_toArray, List.set_cons_zero, List.set_cons_succ])
      refine wpAnyR_one (i := 10) (o := ⟨some 45, _, _, _, _, _⟩) (by kernel_rfl) (by kernel_rfl) rfl (fun K hK => ?_)
      go_simp
      refine (join_is x1 x0 ro lo _ _ u5 ((ht3.later he4).later he5) ht5 hL hR (by omega)).mono ?_
      rintro e u6 ⟨v6, rfl, ht6, he6⟩
      obtain ⟨f6', l6', rfl⟩ := ht6.seq.form
      have he16 := btr' he15 he6
      (try dsimp only)
      refine hK.out _ _ (.inr (S0 _ he16)) ?_
      clear hK K
      (try simp only [Act.put, List.setIfInBounds_toArray, List.set_cons_zero, List.set_cons_succ])
      refine wpAnyR_one (i := 11) (o := ⟨some 46, _, _, _, _, _⟩) (by kernel_rfl) (by kernel_rfl) rfl (fun K hK => ?_)
      go_simp
      refine (all_is _ _ u6 u6 ht6 (Below.refl _ _) (fun x hx => by have := hjr2 x hx; omega) (by omega)).mono ?_
      rintro e u7 ⟨v7, rfl, hT7, he7⟩
      obtain ⟨D7, m7, rfl, hme7, hD7⟩ := Kd.S_reads hT7
      have he17 := btr' he16 he7
      (try dsimp only)
      refine hK.out _ _ (.inr (S0 _ he17)) ?_
      clear hK K
      (try simp only [Act.put, List.setIfInBounds_toArray, List.set_cons_zero, List.set_cons_succ])
      have hT07 := S0 _ he17
      refine wpAnyR_take (i := 12) (oi := ⟨some 8, _, _, _, _, _⟩) (v := ?_) (by kernel_rfl) (by kernel_rfl) rfl (by kernel_rfl) (by kernel_rfl) (by kernel_rfl) (fun _ _ _ h => h) (Or.inl ⟨by rfl, ?_⟩) (by assumption) ?_
      rotate_left
      · intro w hSw; (try dsimp only at hSw); (try go_split_ands); go_simp; (try (with_reducible rfl))
      (try simp only [Act.put, List.setIfInBounds_toArray, List.set_cons_zero, List.set_cons_succ])
      refine wpAnyR_done (by kernel_rfl) ?_ _
      go_wp2_with fail
      refine (aliveX_any _).mono ?_
      rintro e u8 ⟨rfl, he8⟩
      have he18 := btr' he17 he8
      have hlen : ((joinL x1 x0 ro lo).length : Int) = (joinL x0 x1 lo ro).length := by rw [hsw]
      simp only [hlen]
      go_wp2_with fail
      have hw78 : Below w7.heap.size w7 u8 := btr' (btr' (btr' (btr' (btr' (btr' (btr' (below_drew (Below.refl _ w7)) he2) he3) he4) he5) he6) he7) he8
      have hC8 := Kd.C_below hC7 hw78
      have hw8 := btr' hb1 he18
      have H08 := Kd.C_below H0 hw8
      have H18 := Kd.C_below H1 hw8
      have g58 := blk_below g5 he18
      have hwlt := blk_lt g58
      (try clear hd)
      (try clear hb2)
      (try clear hb12)
      (try clear hb3)
      (try clear hb13)
      (try clear hb4)
      (try clear hb14)
      (try clear hb5)
      (try clear hb15)
      (try clear hb6)
      (try clear hb16)
      (try clear hb7)
      (try clear hb17)
      (try clear hS2)
      (try clear hS4)
      (try clear hS7)
      (try clear hle2)
      (try clear hC2)
      (try clear hle4)
      (try clear hC4)
      (try clear hs3)
      (try clear hs5)
      (try clear hs6)
      (try clear hd7)
      (try clear he2)
      (try clear he12)
      (try clear he3)
      (try clear he13)
      (try clear he4)
      (try clear he14)
      (try clear he5)
      (try clear he15)
      (try clear he6)
      (try clear he16)
      (try clear he7)
      (try clear he17)
      (try clear hT2)
      (try clear hT4)
      (try clear hT7)
      (try clear hme2)
      (try clear hD2)
      (try clear hme4)
      (try clear hD4)
      (try clear ht3)
      (try clear ht5)
      (try clear ht6)
      (try clear hme7)
      (try clear hD7)
      (try clear hS07)
      (try clear hT07)
      (try clear hS0')
      (try clear hS0)
      (try clear S0)
      (try clear hk0)
      (try clear hk1)
      (try clear hjl2)
      (try clear hjr2)
      (try clear hC7)
      (try clear H0)
      (try clear H1)
      (try clear he8)
      (try clear g5)
      (try clear hw78)
      (try clear hb1)
      (try clear he18)
      go_loopw [9, 58] (fun at_ i wr => ∃ m : Nat, m ≤ x0.length ∧ i = .int .i64 m ∧ at_ = .int .i64 ((joinL (x0.take m) x1 lo ro).length : Nat) ∧ Below u8.heap.size u8 wr) (fun _ i _ => x0.length - (intOf i).toNat)
      case atStart => exact ⟨0, Nat.zero_le _, rfl, rfl, Below.refl _ _⟩
      case round =>
        obtain ⟨m, hm, rfl, rfl, hBo⟩ := hrel
        by_cases hlt : m < x0.length
        · go_wp2_with fail
          go_loopw [9, 63] (fun at_ j V => ∃ n : Nat, n ≤ x1.length ∧ j = .int .i64 n ∧ at_ = .int .i64 ((swP x0 x1 lo ro m n).length : Nat) ∧ Below u8.heap.size u8 V) (fun _ j _ => x1.length - (intOf j).toNat)
          case atStart => exact ⟨0, Nat.zero_le _, rfl, by rw [swP_zero], hBo⟩
          case round =>
            obtain ⟨n, hn, rfl, rfl, hB⟩ := hrel
            by_cases hlt2 : n < x1.length
            · obtain ⟨ad, cs, hA0, _, hK0, hcs0⟩ := Kd.C_get (Kd.C_below H08 hB) [] m (by omega) (by omega)
              obtain ⟨ae, ct, hA1, _, hK1, hcs1⟩ := Kd.C_get (Kd.C_below H18 hB) [] n (by omega) (by omega)
              obtain ⟨Ax, cx, rfl, hlex, hCx⟩ := hK0
              obtain ⟨Ay, cy, rfl, hley, hCy⟩ := hK1
              have hx : x0.getD (m : Int).toNat [] = x0.getD m [] := rfl
              have hy : x1.getD (n : Int).toNat [] = x1.getD n [] := rfl
              rw [hx] at hlex hCx hcs0
              rw [hy] at hley hCy hcs1
              have q0 := hcs0 0 _ rfl
              have q1 := hcs1 0 _ rfl
              have hsz : kRows.sz = 1 := rfl
              rw [hsz, Int.toNat_natCast, Nat.mul_one, Nat.add_zero] at q0 q1
              have hsu := swP_succ x0 x1 lo ro m n hlt2
              have hnx := swP_next x0 x1 lo ro m n hlt hlt2
              have hxl := hL _ (getD_mem [] hlt)
              have hyl := hR _ (getD_mem [] hlt2)
              subst hA0
              subst hA1
              generalize x0.getD m [] = x at *
              generalize x1.getD n [] = y at *
              have hax := refAt_f x lo
              have hay := refAt_f y ro
              obtain ⟨vx, hvx⟩ : ∃ v, atS x lo = v := ⟨_, rfl⟩
              obtain ⟨vy, hvy⟩ : ∃ v, atS y ro = v := ⟨_, rfl⟩
              have hok : okJ lo ro x y = (vx.f0 != 0 && (vy.f0 != 0 && decide (cmpV (toV vx) (toV vy) = 0))) := by rw [okJ, hvx, hvy]
              rw [hvx] at hax
              rw [hvy] at hay
              clear hvx hvy
              obtain ⟨q0', q1', q2', q3'⟩ := vx
              obtain ⟨p0', p1', p2', p3'⟩ := vy
              simp only at hax hay hok
              go_wp2_with fail
              have S1 : ∀ V, Below wr.heap.size wr V → V.cell? (ad.add m) = some (.slice Ax x.length cx) ∧ V.cell? ⟨w.heap.size, 0, none⟩ = some (.int .i64 lo) := fun V hV => ⟨pw_cell_below hV q0, blk_cell (blk_below g58 (btr' hB hV)) 0⟩
              apply share (Hyp := fun W3 b12 => Below wr.heap.size wr W3 ∧ W3.heap[b12]? = some (.cells #[.int .i64 q0', .bool q1', .int .i64 q2', .string q3'] 42 (0, 0)))
              case h2 =>
                intro KEY1
                refine (wpIn_wide (n := 0)).1 ?_
                refine wpIn_region_R (l := 0) 9 (S := fun V => V.cell? (ad.add m) = some (.slice Ax x.length cx) ∧ V.cell? ⟨w.heap.size, 0, none⟩ = some (.int .i64 lo)) (by kernel_rfl) (S1 _ (below_drew (Below.refl _ _))) (fun hS1 => ?_)
                refine wpAnyR_take (i := 0) (oi := ⟨some 66, _, _, _, _, _⟩) (v := ?_) (by kernel_rfl) (by kernel_rfl) rfl (by kernel_rfl) (by kernel_rfl) (by kernel_rfl) (fun _ _ _ h => h) (Or.inl ⟨by rfl, ?_⟩) (by assumption) ?_
                rotate_left
                · intro w hSw; (try dsimp only at hSw); (try go_split_ands); go_simp; (try (with_reducible rfl))
                (try simp only [Act.put, List.setIfInBounds_toArray, List.set_cons_zero, List.set_cons_succ])
                refine wpAnyR_take (i := 1) (oi := ⟨some 67, _, _, _, _, _⟩) (v := ?_) (by kernel_rfl) (by kernel_rfl) rfl (by kernel_rfl) (by kernel_rfl) (by kernel_rfl) (fun _ _ _ h => h) (Or.inl ⟨by rfl, ?_⟩) (by assumption) ?_
                rotate_left
                · intro w hSw; (try dsimp only at hSw); (try go_split_ands); go_simp; (try (with_reducible rfl))
                (try simp only [Act.put, List.setIfInBounds_toArray, List.set_cons_zero, List.set_cons_succ])
                refine wpAnyR_take (i := 2) (oi := ⟨some 68, _, _, _, _, _⟩) (v := ?_) (by kernel_rfl) (by kernel_rfl) rfl (by kernel_rfl) (by kernel_rfl) (by kernel_rfl) (fun _ _ _ h => h) (Or.inl ⟨by rfl, ?_⟩) (by assumption) ?_
                rotate_left
                · intro w hSw; (try dsimp only at hSw); (try go_split_ands); go_simp; (try (with_reducible rfl))
                (try simp only [Act.put, List.setIfInBounds_toArray, List.set_cons_zero, List.set_cons_succ])
                refine wpAnyR_take (i := 3) (oi := ⟨some 69, _, _, _, _, _⟩) (v := ?_) (by kernel_rfl) (by kernel_rfl) rfl (by kernel_rfl) (by kernel_rfl) (by kernel_rfl) (fun _ _ _ h => h) (Or.inl ⟨by rfl, ?_⟩) (by assumption) ?_
                rotate_left
                · intro w hSw; (try dsimp only at hSw); (try go_split_ands); go_simp; (try (with_reducible rfl))
                (try simp only [Act.put, List.setIfInBounds_toArray, List.set_cons_zero, List.set_cons_succ])
                refine wpAnyR_take (i := 4) (oi := ⟨some 70, _, _, _, _, _⟩) (v := ?_) (by kernel_rfl) (by kernel_rfl) rfl (by kernel_rfl) (by kernel_rfl) (by kernel_rfl) (fun _ _ _ h => h) (Or.inl ⟨by rfl, ?_⟩) (by assumption) ?_
                rotate_left
                · intro w hSw; (try dsimp only at hSw); (try go_split_ands); go_simp; (try (with_reducible rfl))
                (try simp only [Act.put, List.setIfInBounds_toArray, List.set_cons_zero, List.set_cons_succ])
                refine wpAnyR_take (i := 5) (oi := ⟨some 71, _, _, _, _, _⟩) (v := ?_) (by kernel_rfl) (by kernel_rfl) rfl (by kernel_rfl) (by kernel_rfl) (by kernel_rfl) (fun _ _ _ h => h) (Or.inl ⟨by rfl, ?_⟩) (by assumption) ?_
                rotate_left
                · intro w hSw; (try dsimp only at hSw); (try go_split_ands); go_simp; (try (with_reducible rfl))
                (try simp only [Act.put, List.setIfInBounds_toArray, List.set_cons_zero, List.set_cons_succ])
                refine wpAnyR_two (i := 6) (j := 7) (oi := ⟨some 72, _, _, _, _, _⟩) (oj := ⟨some 12, _, _, _, _, _⟩) (by kernel_rfl) (by kernel_rfl) rfl rfl (fun K hK => ?_) (fun K hK => ?_)
                focus
                  go_simp
                  refine (hayloftref15_At.calls Ax cx x lo _ _ _ _ _ (Kd.C_drew hCx) hlex hax).mono ?_
                  rintro e V1 ⟨rfl, hV1⟩
                  have hV1' : Below wr.heap.size wr V1 := btr' (below_drew (Below.refl _ _)) hV1
                  (try dsimp only)
                  refine hK.out _ _ (.inr (S1 _ hV1')) ?_
                  clear hK K
                  (try simp only [Act.put, List.setIfInBounds_toArray, List.set_cons_zero, List.set_cons_succ])
                  refine wpAnyR_one (i := 7) (o := ⟨some 12, _, _, _, _, _⟩) (by kernel_rfl) (by kernel_rfl) rfl (fun K hK => ?_)
                  go_simp
                  refine hK.out _ _ (.inr (S1 _ (below_alloc hV1' _))) ?_
                  clear hK K
                  (try simp only [Act.put, List.setIfInBounds_toArray, List.set_cons_zero, List.set_cons_succ])
                  refine wpAnyR_one (i := 8) (o := ⟨none, _, _, _, _, _⟩) (by kernel_rfl) (by kernel_rfl) rfl (fun K hK => ?_)
                  go_simp
                  refine hK.out _ _ (.inr (S1 _ (below_alloc hV1' _))) ?_
                  clear hK K
                  (try simp only [Act.put, List.setIfInBounds_toArray, List.set_cons_zero, List.set_cons_succ])
                  refine wpAnyR_done (by kernel_rfl) ?_ _
                  have hB3 := below_alloc hV1' (.cells #[.int .i64 q0', .bool q1', .int .i64 q2', .string q3'] 42)
                  have hb12 := blk_new V1 (.cells #[.int .i64 q0', .bool q1', .int .i64 q2', .string q3'] 42)
                  generalize V1.alloc (.cells #[.int .i64 q0', .bool q1', .int .i64 q2', .string q3'] 42) = W3 at hB3 hb12 ⊢
                  generalize V1.heap.size = b12 at hb12 ⊢
                  exact KEY1 W3 b12 ⟨hB3, hb12⟩
                focus
                  go_simp
                  have hZ : Below wr.heap.size wr (wr.alloc (.cells #[.int .i64 0, .bool false, .int .i64 0, .string ⟨#[]⟩] 42)).drew := below_drew (below_alloc (Below.refl _ _) _)
                  have hZx : (wr.alloc (.cells #[.int .i64 0, .bool false, .int .i64 0, .string ⟨#[]⟩] 42)).drew.heap[wr.heap.size]? = some (.cells #[.int .i64 0, .bool false, .int .i64 0, .string ⟨#[]⟩] 42 (0, 0)) := blk_drew (blk_new _ _)
                  refine hK.out _ _ (.inr (S1 _ hZ)) ?_
                  clear hK K
                  (try simp only [Act.put, List.setIfInBounds_toArray, List.set_cons_zero, List.set_cons_succ])
                  refine wpAnyR_one (i := 6) (o := ⟨some 72, _, _, _, _, _⟩) (by kernel_rfl) (by kernel_rfl) rfl (fun K hK => ?_)
                  go_simp
                  refine (hayloftref15_At.calls Ax cx x lo _ _ _ _ _ (Kd.C_below hCx hZ) hlex hax).mono ?_
                  rintro e V1 ⟨rfl, hV1⟩
                  have hV1' : Below wr.heap.size wr V1 := btr' hZ hV1
                  have hZ1 := blk_below hZx hV1
                  have hbW : ∃ b, wr.heap.size = b := ⟨_, rfl⟩
                  (try dsimp only)
                  refine hK.out _ _ (.inr (S1 _ hV1')) ?_
                  clear hK K
                  (try simp only [Act.put, List.setIfInBounds_toArray, List.set_cons_zero, List.set_cons_succ])
                  have z0 := blk_cell hZ1 0
                  have z1 := blk_cell hZ1 1
                  have z2 := blk_cell hZ1 2
                  have z3 := blk_cell hZ1 3
                  have y0 := blk_frozen hZ1 0
                  have y1 := blk_frozen hZ1 1
                  have y2 := blk_frozen hZ1 2
                  have y3 := blk_frozen hZ1 3
                  refine wpAnyR_one (i := 8) (o := ⟨none, _, _, _, _, _⟩) (by kernel_rfl) (by kernel_rfl) rfl (fun K hK => ?_)
                  go_simp
                  have hk : ∀ (V : World) (j : Nat) (u : Value), Seq.Kpt (fun i => i = wr.heap.size) V (V.setCell ⟨wr.heap.size, j, none⟩ u) := fun V j u => Seq.Kpt.setCell V ⟨wr.heap.size, j, none⟩ u
                  have hset := blk_set (blk_set (blk_set (blk_set hZ1 0 (.int .i64 q0')) 1 (.bool q1')) 2 (.int .i64 q2')) 3 (.string q3')
                  have hkk := (((hk V1 0 (.int .i64 q0')).trans (hk _ 1 (.bool q1')) (M := fun i => i = wr.heap.size) (fun _ _ h => h.elim id id)).trans (hk _ 2 (.int .i64 q2')) (M := fun i => i = wr.heap.size) (fun _ _ h => h.elim id id)).trans (hk _ 3 (.string q3')) (M := fun i => i = wr.heap.size) (fun _ _ h => h.elim id id)
                  have hBs := hV1'.trans (hkk.below hV1'.size (fun i _ e => by omega))
                  refine hK.out _ _ (.inr (S1 _ hBs)) ?_
                  clear hK K
                  (try simp only [Act.put, List.setIfInBounds_toArray, List.set_cons_zero, List.set_cons_succ])
                  refine wpAnyR_done (by kernel_rfl) ?_ _
                  have hB3 := hBs
                  have hb12 : (((V1.setCell ⟨wr.heap.size, 0, none⟩ (.int .i64 q0')).setCell ⟨wr.heap.size, 1, none⟩ (.bool q1')).setCell ⟨wr.heap.size, 2, none⟩ (.int .i64 q2')).setCell ⟨wr.heap.size, 3, none⟩ (.string q3') |>.heap[wr.heap.size]? = some (.cells #[.int .i64 q0', .bool q1', .int .i64 q2', .string q3'] 42 (0, 0)) := by simpa using hset
                  clear hk hkk hset hBs z0 z1 z2 z3 y0 y1 y2 y3 hZ1 hZx hbW
                  generalize ((((V1.setCell ⟨wr.heap.size, 0, none⟩ (.int .i64 q0')).setCell ⟨wr.heap.size, 1, none⟩ (.bool q1')).setCell ⟨wr.heap.size, 2, none⟩ (.int .i64 q2')).setCell ⟨wr.heap.size, 3, none⟩ (.string q3')) = W3 at hB3 hb12 ⊢
                  obtain ⟨b12, hbe⟩ : ∃ b, wr.heap.size = b := ⟨_, rfl⟩
                  rw [hbe] at hb12 ⊢
                  exact KEY1 W3 b12 ⟨hB3, hb12⟩
              case h1 =>
                intro W3 b12 hyp1
                obtain ⟨hB3, hb12⟩ := hyp1
                go_wp2_with fail
                have hCy3 := Kd.C_below hCy hB3
                have q13 := pw_cell_below hB3 q1
                have S2 : ∀ V, Below W3.heap.size W3 V → V.cell? (ae.add n) = some (.slice Ay y.length cy) ∧ V.cell? ⟨w.heap.size, 1, none⟩ = some (.int .i64 ro) := fun V hV => ⟨pw_cell_below hV q13, blk_cell (blk_below g58 (btr' (btr' hB hB3) hV)) 1⟩
                apply share (Hyp := fun W4 b13 => Below W3.heap.size W3 W4 ∧ W4.heap[b13]? = some (.cells #[.int .i64 p0', .bool p1', .int .i64 p2', .string p3'] 42 (0, 0)))
                case h2 =>
                  intro KEY2
                  refine (wpIn_wide (n := 0)).1 ?_
                  refine wpIn_region_R (l := 0) 9 (S := fun V => V.cell? (ae.add n) = some (.slice Ay y.length cy) ∧ V.cell? ⟨w.heap.size, 1, none⟩ = some (.int .i64 ro)) (by kernel_rfl) (S2 _ (below_drew (Below.refl _ _))) (fun hS2' => ?_)
                  refine wpAnyR_take (i := 0) (oi := ⟨some 73, _, _, _, _, _⟩) (v := ?_) (by kernel_rfl) (by kernel_rfl) rfl (by kernel_rfl) (by kernel_rfl) (by kernel_rfl) (fun _ _ _ h => h) (Or.inl ⟨by rfl, ?_⟩) (by assumption) ?_
                  rotate_left
                  · intro w hSw; (try dsimp only at hSw); (try go_split_ands); go_simp; (try (with_reducible rfl))
                  (try simp only [Act.put, List.setIfInBounds_toArray, List.set_cons_zero, List.set_cons_succ])
                  refine wpAnyR_take (i := 1) (oi := ⟨some 74, _, _, _, _, _⟩) (v := ?_) (by kernel_rfl) (by kernel_rfl) rfl (by kernel_rfl) (by kernel_rfl) (by kernel_rfl) (fun _ _ _ h => h) (Or.inl ⟨by rfl, ?_⟩) (by assumption) ?_
                  rotate_left
                  · intro w hSw; (try dsimp only at hSw); (try go_split_ands); go_simp; (try (with_reducible rfl))
                  (try simp only [Act.put, List.setIfInBounds_toArray, List.set_cons_zero, List.set_cons_succ])
                  refine wpAnyR_take (i := 2) (oi := ⟨some 75, _, _, _, _, _⟩) (v := ?_) (by kernel_rfl) (by kernel_rfl) rfl (by kernel_rfl) (by kernel_rfl) (by kernel_rfl) (fun _ _ _ h => h) (Or.inl ⟨by rfl, ?_⟩) (by assumption) ?_
                  rotate_left
                  · intro w hSw; (try dsimp only at hSw); (try go_split_ands); go_simp; (try (with_reducible rfl))
                  (try simp only [Act.put, List.setIfInBounds_toArray, List.set_cons_zero, List.set_cons_succ])
                  refine wpAnyR_take (i := 3) (oi := ⟨some 76, _, _, _, _, _⟩) (v := ?_) (by kernel_rfl) (by kernel_rfl) rfl (by kernel_rfl) (by kernel_rfl) (by kernel_rfl) (fun _ _ _ h => h) (Or.inl ⟨by rfl, ?_⟩) (by assumption) ?_
                  rotate_left
                  · intro w hSw; (try dsimp only at hSw); (try go_split_ands); go_simp; (try (with_reducible rfl))
                  (try simp only [Act.put, List.setIfInBounds_toArray, List.set_cons_zero, List.set_cons_succ])
                  refine wpAnyR_take (i := 4) (oi := ⟨some 77, _, _, _, _, _⟩) (v := ?_) (by kernel_rfl) (by kernel_rfl) rfl (by kernel_rfl) (by kernel_rfl) (by kernel_rfl) (fun _ _ _ h => h) (Or.inl ⟨by rfl, ?_⟩) (by assumption) ?_
                  rotate_left
                  · intro w hSw; (try dsimp only at hSw); (try go_split_ands); go_simp; (try (with_reducible rfl))
                  (try simp only [Act.put, List.setIfInBounds_toArray, List.set_cons_zero, List.set_cons_succ])
                  refine wpAnyR_take (i := 5) (oi := ⟨some 78, _, _, _, _, _⟩) (v := ?_) (by kernel_rfl) (by kernel_rfl) rfl (by kernel_rfl) (by kernel_rfl) (by kernel_rfl) (fun _ _ _ h => h) (Or.inl ⟨by rfl, ?_⟩) (by assumption) ?_
                  rotate_left
                  · intro w hSw; (try dsimp only at hSw); (try go_split_ands); go_simp; (try (with_reducible rfl))
                  (try simp only [Act.put, List.setIfInBounds_toArray, List.set_cons_zero, List.set_cons_succ])
                  refine wpAnyR_two (i := 6) (j := 7) (oi := ⟨some 79, _, _, _, _, _⟩) (oj := ⟨some 13, _, _, _, _, _⟩) (by kernel_rfl) (by kernel_rfl) rfl rfl (fun K hK => ?_) (fun K hK => ?_)
                  focus
                    go_simp
                    refine (hayloftref15_At.calls Ay cy y ro _ _ _ _ _ (Kd.C_drew hCy3) hley hay).mono ?_
                    rintro e V1 ⟨rfl, hV1⟩
                    have hV1' : Below W3.heap.size W3 V1 := btr' (below_drew (Below.refl _ _)) hV1
                    (try dsimp only)
                    refine hK.out _ _ (.inr (S2 _ hV1')) ?_
                    clear hK K
                    (try simp only [Act.put, List.setIfInBounds_toArray, List.set_cons_zero, List.set_cons_succ])
                    refine wpAnyR_one (i := 7) (o := ⟨some 13, _, _, _, _, _⟩) (by kernel_rfl) (by kernel_rfl) rfl (fun K hK => ?_)
                    go_simp
                    refine hK.out _ _ (.inr (S2 _ (below_alloc hV1' _))) ?_
                    clear hK K
                    (try simp only [Act.put, List.setIfInBounds_toArray, List.set_cons_zero, List.set_cons_succ])
                    refine wpAnyR_one (i := 8) (o := ⟨none, _, _, _, _, _⟩) (by kernel_rfl) (by kernel_rfl) rfl (fun K hK => ?_)
                    go_simp
                    refine hK.out _ _ (.inr (S2 _ (below_alloc hV1' _))) ?_
                    clear hK K
                    (try simp only [Act.put, List.setIfInBounds_toArray, List.set_cons_zero, List.set_cons_succ])
                    refine wpAnyR_done (by kernel_rfl) ?_ _
                    have hB4 := below_alloc hV1' (.cells #[.int .i64 p0', .bool p1', .int .i64 p2', .string p3'] 42)
                    have hb13 := blk_new V1 (.cells #[.int .i64 p0', .bool p1', .int .i64 p2', .string p3'] 42)
                    generalize V1.alloc (.cells #[.int .i64 p0', .bool p1', .int .i64 p2', .string p3'] 42) = W4 at hB4 hb13 ⊢
                    generalize V1.heap.size = b13 at hb13 ⊢
                    exact KEY2 W4 b13 ⟨hB4, hb13⟩
                  focus
                    go_simp
                    have hZ : Below W3.heap.size W3 (W3.alloc (.cells #[.int .i64 0, .bool false, .int .i64 0, .string ⟨#[]⟩] 42)).drew := below_drew (below_alloc (Below.refl _ _) _)
                    have hZx : (W3.alloc (.cells #[.int .i64 0, .bool false, .int .i64 0, .string ⟨#[]⟩] 42)).drew.heap[W3.heap.size]? = some (.cells #[.int .i64 0, .bool false, .int .i64 0, .string ⟨#[]⟩] 42 (0, 0)) := blk_drew (blk_new _ _)
                    refine hK.out _ _ (.inr (S2 _ hZ)) ?_
                    clear hK K
                    (try simp only [Act.put, List.setIfInBounds_toArray, List.set_cons_zero, List.set_cons_succ])
                    refine wpAnyR_one (i := 6) (o := ⟨some 79, _, _, _, _, _⟩) (by kernel_rfl) (by kernel_rfl) rfl (fun K hK => ?_)
                    go_simp
                    refine (hayloftref15_At.calls Ay cy y ro _ _ _ _ _ (Kd.C_below hCy3 hZ) hley hay).mono ?_
                    rintro e V1 ⟨rfl, hV1⟩
                    have hV1' : Below W3.heap.size W3 V1 := btr' hZ hV1
                    have hZ1 := blk_below hZx hV1
                    have hbW : ∃ b, W3.heap.size = b := ⟨_, rfl⟩
                    (try dsimp only)
                    refine hK.out _ _ (.inr (S2 _ hV1')) ?_
                    clear hK K
                    (try simp only [Act.put, List.setIfInBounds_toArray, List.set_cons_zero, List.set_cons_succ])
                    have z0 := blk_cell hZ1 0
                    have z1 := blk_cell hZ1 1
                    have z2 := blk_cell hZ1 2
                    have z3 := blk_cell hZ1 3
                    have y0 := blk_frozen hZ1 0
                    have y1 := blk_frozen hZ1 1
                    have y2 := blk_frozen hZ1 2
                    have y3 := blk_frozen hZ1 3
                    refine wpAnyR_one (i := 8) (o := ⟨none, _, _, _, _, _⟩) (by kernel_rfl) (by kernel_rfl) rfl (fun K hK => ?_)
                    go_simp
                    have hk : ∀ (V : World) (j : Nat) (u : Value), Seq.Kpt (fun i => i = W3.heap.size) V (V.setCell ⟨W3.heap.size, j, none⟩ u) := fun V j u => Seq.Kpt.setCell V ⟨W3.heap.size, j, none⟩ u
                    have hset := blk_set (blk_set (blk_set (blk_set hZ1 0 (.int .i64 p0')) 1 (.bool p1')) 2 (.int .i64 p2')) 3 (.string p3')
                    have hkk := (((hk V1 0 (.int .i64 p0')).trans (hk _ 1 (.bool p1')) (M := fun i => i = W3.heap.size) (fun _ _ h => h.elim id id)).trans (hk _ 2 (.int .i64 p2')) (M := fun i => i = W3.heap.size) (fun _ _ h => h.elim id id)).trans (hk _ 3 (.string p3')) (M := fun i => i = W3.heap.size) (fun _ _ h => h.elim id id)
                    have hBs := hV1'.trans (hkk.below hV1'.size (fun i _ e => by omega))
                    refine hK.out _ _ (.inr (S2 _ hBs)) ?_
                    clear hK K
                    (try simp only [Act.put, List.setIfInBounds_toArray, List.set_cons_zero, List.set_cons_succ])
                    refine wpAnyR_done (by kernel_rfl) ?_ _
                    have hB4 := hBs
                    have hb13 : (((V1.setCell ⟨W3.heap.size, 0, none⟩ (.int .i64 p0')).setCell ⟨W3.heap.size, 1, none⟩ (.bool p1')).setCell ⟨W3.heap.size, 2, none⟩ (.int .i64 p2')).setCell ⟨W3.heap.size, 3, none⟩ (.string p3') |>.heap[W3.heap.size]? = some (.cells #[.int .i64 p0', .bool p1', .int .i64 p2', .string p3'] 42 (0, 0)) := by simpa using hset
                    clear hk hkk hset hBs z0 z1 z2 z3 y0 y1 y2 y3 hZ1 hZx hbW
                    generalize ((((V1.setCell ⟨W3.heap.size, 0, none⟩ (.int .i64 p0')).setCell ⟨W3.heap.size, 1, none⟩ (.bool p1')).setCell ⟨W3.heap.size, 2, none⟩ (.int .i64 p2')).setCell ⟨W3.heap.size, 3, none⟩ (.string p3')) = W4 at hB4 hb13 ⊢
                    obtain ⟨b13, hbe⟩ : ∃ b, W3.heap.size = b := ⟨_, rfl⟩
                    rw [hbe] at hb13 ⊢
                    exact KEY2 W4 b13 ⟨hB4, hb13⟩
                case h1 =>
                  intro W4 b13 hyp2
                  obtain ⟨hB4, hb13⟩ := hyp2
                  have hBV := btr' hB (btr' hB3 hB4)
                  have hx12 := blk_below hb12 hB4
                  have a0 := blk_cell hx12 0
                  have a1 := blk_cell hx12 1
                  have a2 := blk_cell hx12 2
                  have a3 := blk_cell hx12 3
                  have b0 := blk_cell hb13 0
                  have b1 := blk_cell hb13 1
                  have b2 := blk_cell hb13 2
                  have b3 := blk_cell hb13 3
                  by_cases e1 : q0' = 0
                  · subst e1
                    have hno : okJ lo ro x y = false := by rw [hok]; simp
                    go_wp2_with fail
                    go_roundw
                    case rel => exact ⟨n + 1, by omega, by go_num, by rw [hsu, if_neg (by rw [hno]; simp)], hBV⟩
                    case measure => simp [intOf]; omega
                  · by_cases e2 : p0' = 0
                    · subst e2
                      have hno : okJ lo ro x y = false := by rw [hok]; simp
                      go_wp2_with fail
                      go_roundw
                      case rel => exact ⟨n + 1, by omega, by go_num, by rw [hsu, if_neg (by rw [hno]; simp)], hBV⟩
                      case measure => simp [intOf]; omega
                    · obtain ⟨z, hz⟩ : ∃ z, cmpV ⟨q0', q1', q2', q3'⟩ ⟨p0', p1', p2', p3'⟩ = z := ⟨_, rfl⟩
                      go_wp2_with fail
                      refine (hayloftref02_Compare.calls q0' q1' q2' q3' p0' p1' p2' p3' z _ (by rw [hayloftref02_Compare.f, hz])).mono ?_
                      rintro e W5 ⟨rfl, hB5⟩
                      have hBV5 := btr' hBV hB5
                      have hz' : cmpV (toV ⟨q0', q1', q2', q3'⟩) (toV ⟨p0', p1', p2', p3'⟩) = z := hz
                      have hok2 : okJ lo ro x y = true ↔ z = 0 := by
                        rw [hok, Bool.and_eq_true, Bool.and_eq_true, decide_eq_true_iff]
                        exact ⟨fun h => by rw [← hz']; exact h.2.2, fun h => ⟨by simpa using e1, by simpa using e2, by rw [hz']; exact h⟩⟩
                      clear hz hz'
                      by_cases e3 : z = 0
                      · have hyes : okJ lo ro x y = true := hok2.2 e3
                        subst e3
                        obtain ⟨hlt7, hget⟩ := hnx hyes
                        have hlt7' : (swP x0 x1 lo ro m n).length < (joinL x1 x0 ro lo).length := by rw [← hsw]; exact hlt7
                        have hPb : (swP x0 x1 lo ro m n).length ≤ 1000000 := by omega
                        obtain ⟨az, cz, hB7, _, hKz, hcz⟩ := Kd.C_get (Kd.C_below hC8 hBV5) [] ((swP x0 x1 lo ro m n).length : Nat) (by omega) (by omega)
                        have hgx : (joinL x0 x1 lo ro).getD (((swP x0 x1 lo ro m n).length : Nat) : Int).toNat [] = x ++ y := hget
                        rw [hgx] at hKz
                        obtain ⟨Az, czc, rfl, hlez, hCz⟩ := hKz
                        have qz := hcz 0 _ rfl
                        rw [hsz, Int.toNat_natCast, Nat.mul_one, Nat.add_zero] at qz
                        subst hB7
                        have d97 : decide (((joinL x1 x0 ro lo).length : Int) ≤ ((swP x0 x1 lo ro m n).length : Int)) = false := decide_eq_false (by omega)
                        have hsr := same_row (x ++ y) (x ++ y) (by simp only [List.length_append]; omega)
                        rw [eqRow_iff.2 rfl] at hsr
                        obtain ⟨ks, hks⟩ := hsr.rounds
                        have hjn : hayloftref15_Joined.f x y = some (x ++ y) := by
                          simp only [hayloftref15_Joined.f, Option.bind_some, List.nil_append, List.length_nil, Nat.zero_add]
                          rw [if_pos (by omega)]
                          first | (rw [if_pos (by omega)]) | (rw [Option.bind_some, if_pos (by omega)])
                        have hw35 := btr' (btr' hB3 hB4) hB5
                        have hCx5 := Kd.C_below hCx hw35
                        have hCy5 := Kd.C_below hCy hw35
                        have S4 : ∀ V, Below W5.heap.size W5 V → V.cell? (az.add (swP x0 x1 lo ro m n).length) = some (.slice Az (x ++ y).length czc) ∧ V.cell? (ad.add m) = some (.slice Ax x.length cx) ∧ V.cell? (ae.add n) = some (.slice Ay y.length cy) :=
                          fun V hV => ⟨pw_cell_below hV qz, pw_cell_below (btr' hw35 hV) q0, pw_cell_below (btr' hw35 hV) q1⟩
                        clear hok hok2 hax hay hnx hget hgx hcz hsr
                        go_wp2_with fail
                        case roundEnd =>
                          exfalso
                          rename_i hcc
                          rcases hcc with hcc | hcc
                          · exact e1 (by simpa using hcc)
                          · exact e2 (by simpa using hcc)
                        have HSU := Lib.hid hsu
                        have HYES := Lib.hid hyes
                        have HS4 := Lib.hid S4
                        have HE1 := Lib.hid e1
                        have HE2 := Lib.hid e2
                        have hpl : (0 : Int) ≤ ((swP x0 x1 lo ro m n).length : Int) := Int.natCast_nonneg _
                        have hml : (0 : Int) ≤ (m : Int) := Int.natCast_nonneg _
                        have hnl : (0 : Int) ≤ (n : Int) := Int.natCast_nonneg _
                        clear hsu hyes S4 e1 e2
                        (try clear hL hR); (try clear d0 d1); (try clear hjl hjr); (try clear hsw); (try clear hlen); (try clear hle7); (try clear hcs0 hcs1); (try clear hx hy); (try clear a0 a1 a2 a3 b0 b1 b2 b3); (try clear S1 S2); (try clear hx12); (try clear hb12 hb13); (try clear q13); (try clear hC8 hCy3); (try clear H08 H18); (try clear hlt7); (try clear g58 hwlt); (try clear q0 q1 hCx hCy); (try clear qz)
                        generalize x ++ y = zr at HSU HS4 hjn hCz hlez hks
                        refine (wpIn_wide (n := 0)).1 ?_
                        refine wpIn_region_R (l := 0) 21 (S := fun V => V.cell? (az.add (swP x0 x1 lo ro m n).length) = some (.slice Az zr.length czc) ∧ V.cell? (ad.add m) = some (.slice Ax x.length cx) ∧ V.cell? (ae.add n) = some (.slice Ay y.length cy)) (by kernel_rfl) (HS4.out _ (below_drew (Below.refl _ _))) (fun hS4 => ?_)
                        refine wpAnyR_take (i := 0) (oi := ⟨some 94, _, _, _, _, _⟩) (v := ?_) (by kernel_rfl) (by kernel_rfl) rfl (by kernel_rfl) (by kernel_rfl) (by kernel_rfl) (fun _ _ _ h => h) (Or.inl ⟨by rfl, ?_⟩) (by assumption) ?_
                        rotate_left
                        · intro w hSw; (try dsimp only at hSw); (try go_split_ands); go_simp; (try (with_reducible rfl))
                        (try simp only [Act.put, List.setIfInBounds_toArray, List.set_cons_zero, List.set_cons_succ])
                        refine wpAnyR_take (i := 1) (oi := ⟨some 95, _, _, _, _, _⟩) (v := ?_) (by kernel_rfl) (by kernel_rfl) rfl (by kernel_rfl) (by kernel_rfl) (by kernel_rfl) (fun _ _ _ h => h) (Or.inl ⟨by rfl, ?_⟩) (by assumption) ?_
                        rotate_left
                        · intro w hSw; (try dsimp only at hSw); (try go_split_ands); go_simp; (try (with_reducible rfl))
                        (try simp only [Act.put, List.setIfInBounds_toArray, List.set_cons_zero, List.set_cons_succ])
                        refine wpAnyR_take (i := 2) (oi := ⟨some 96, _, _, _, _, _⟩) (v := ?_) (by kernel_rfl) (by kernel_rfl) rfl (by kernel_rfl) (by kernel_rfl) (by kernel_rfl) (fun _ _ _ h => h) (Or.inl ⟨by rfl, ?_⟩) (by assumption) ?_
                        rotate_left
                        · intro w hSw; (try dsimp only at hSw); (try go_split_ands); go_simp; (try (with_reducible rfl))
                        (try simp only [Act.put, List.setIfInBounds_toArray, List.set_cons_zero, List.set_cons_succ])
                        refine wpAnyR_take (i := 3) (oi := ⟨some 97, _, _, _, _, _⟩) (v := .bool false) (by kernel_rfl) (by kernel_rfl) rfl (by kernel_rfl) (by kernel_rfl) (by kernel_rfl) (fun _ _ _ h => h) (Or.inl ⟨by rfl, ?_⟩) (by assumption) ?_
                        · intro w hSw; (try dsimp only at hSw); (try go_split_ands); go_simp; first | done | (simp only [d97]; done) | (rw [d97]; done) | (with_reducible rfl) | (simp [d97]; done) | (simp; omega)
                        (try simp only [Act.put, List.setIfInBounds_toArray, List.set_cons_zero, List.set_cons_succ])
                        refine wpAnyR_take (i := 4) (oi := ⟨some 98, _, _, _, _, _⟩) (v := ?_) (by kernel_rfl) (by kernel_rfl) rfl (by kernel_rfl) (by kernel_rfl) (by kernel_rfl) (fun _ _ _ h => h) (Or.inl ⟨by rfl, ?_⟩) (by assumption) ?_
                        rotate_left
                        · intro w hSw; (try dsimp only at hSw); (try go_split_ands); go_simp; (try (with_reducible rfl))
                        (try simp only [Act.put, List.setIfInBounds_toArray, List.set_cons_zero, List.set_cons_succ])
                        refine wpAnyR_take (i := 5) (oi := ⟨some 99, _, _, _, _, _⟩) (v := ?_) (by kernel_rfl) (by kernel_rfl) rfl (by kernel_rfl) (by kernel_rfl) (by kernel_rfl) (fun _ _ _ h => h) (Or.inl ⟨by rfl, ?_⟩) (by assumption) ?_
                        rotate_left
                        · intro w hSw; (try dsimp only at hSw); (try go_split_ands); go_simp; (try (with_reducible rfl))
                        (try simp only [Act.put, List.setIfInBounds_toArray, List.set_cons_zero, List.set_cons_succ])
                        refine wpAnyR_take (i := 6) (oi := ⟨some 100, _, _, _, _, _⟩) (v := ?_) (by kernel_rfl) (by kernel_rfl) rfl (by kernel_rfl) (by kernel_rfl) (by kernel_rfl) (fun _ _ _ h => h) (Or.inl ⟨by rfl, ?_⟩) (by assumption) ?_
                        rotate_left
                        · intro w hSw; (try dsimp only at hSw); (try go_split_ands); go_simp; (try (with_reducible rfl))
                        (try simp only [Act.put, List.setIfInBounds_toArray, List.set_cons_zero, List.set_cons_succ])
                        refine wpAnyR_take (i := 7) (oi := ⟨some 101, _, _, _, _, _⟩) (v := ?_) (by kernel_rfl) (by kernel_rfl) rfl (by kernel_rfl) (by kernel_rfl) (by kernel_rfl) (fun _ _ _ h => h) (Or.inl ⟨by rfl, ?_⟩) (by assumption) ?_
                        rotate_left
                        · intro w hSw; (try dsimp only at hSw); (try go_split_ands); go_simp; (try (with_reducible rfl))
                        (try simp only [Act.put, List.setIfInBounds_toArray, List.set_cons_zero, List.set_cons_succ])
                        refine wpAnyR_take (i := 8) (oi := ⟨some 102, _, _, _, _, _⟩) (v := ?_) (by kernel_rfl) (by kernel_rfl) rfl (by kernel_rfl) (by kernel_rfl) (by kernel_rfl) (fun _ _ _ h => h) (Or.inl ⟨by rfl, ?_⟩) (by assumption) ?_
                        rotate_left
                        · intro w hSw; (try dsimp only at hSw); (try go_split_ands); go_simp; (try (with_reducible rfl))
                        (try simp only [Act.put, List.setIfInBounds_toArray, List.set_cons_zero, List.set_cons_succ])
                        refine wpAnyR_take (i := 9) (oi := ⟨some 103, _, _, _, _, _⟩) (v := ?_) (by kernel_rfl) (by kernel_rfl) rfl (by kernel_rfl) (by kernel_rfl) (by kernel_rfl) (fun _ _ _ h => h) (Or.inl ⟨by rfl, ?_⟩) (by assumption) ?_
                        rotate_left
                        · intro w hSw; (try dsimp only at hSw); (try go_split_ands); go_simp; (try (with_reducible rfl))
                        (try simp only [Act.put, List.setIfInBounds_toArray, List.set_cons_zero, List.set_cons_succ])
                        refine wpAnyR_take (i := 10) (oi := ⟨some 104, _, _, _, _, _⟩) (v := ?_) (by kernel_rfl) (by kernel_rfl) rfl (by kernel_rfl) (by kernel_rfl) (by kernel_rfl) (fun _ _ _ h => h) (Or.inl ⟨by rfl, ?_⟩) (by assumption) ?_
                        rotate_left
                        · intro w hSw; (try dsimp only at hSw); (try go_split_ands); go_simp; (try (with_reducible rfl))
                        (try simp only [Act.put, List.setIfInBounds_toArray, List.set_cons_zero, List.set_cons_succ])
                        refine wpAnyR_take (i := 11) (oi := ⟨some 105, _, _, _, _, _⟩) (v := ?_) (by kernel_rfl) (by kernel_rfl) rfl (by kernel_rfl) (by kernel_rfl) (by kernel_rfl) (fun _ _ _ h => h) (Or.inl ⟨by rfl, ?_⟩) (by assumption) ?_
                        rotate_left
                        · intro w hSw; (try dsimp only at hSw); (try go_split_ands); go_simp; (try (with_reducible rfl))
                        (try simp only [Act.put, List.setIfInBounds_toArray, List.set_cons_zero, List.set_cons_succ])
                        refine wpAnyR_take (i := 12) (oi := ⟨some 106, _, _, _, _, _⟩) (v := ?_) (by kernel_rfl) (by kernel_rfl) rfl (by kernel_rfl) (by kernel_rfl) (by kernel_rfl) (fun _ _ _ h => h) (Or.inl ⟨by rfl, ?_⟩) (by assumption) ?_
                        rotate_left
                        · intro w hSw; (try dsimp only at hSw); (try go_split_ands); go_simp; (try (with_reducible rfl))
                        (try simp only [Act.put, List.setIfInBounds_toArray, List.set_cons_zero, List.set_cons_succ])
                        refine wpAnyR_take (i := 13) (oi := ⟨some 107, _, _, _, _, _⟩) (v := ?_) (by kernel_rfl) (by kernel_rfl) rfl (by kernel_rfl) (by kernel_rfl) (by kernel_rfl) (fun _ _ _ h => h) (Or.inl ⟨by rfl, ?_⟩) (by assumption) ?_
                        rotate_left
                        · intro w hSw; (try dsimp only at hSw); (try go_split_ands); go_simp; (try (with_reducible rfl))
                        (try simp only [Act.put, List.setIfInBounds_toArray, List.set_cons_zero, List.set_cons_succ])
                        refine wpAnyR_take (i := 14) (oi := ⟨some 108, _, _, _, _, _⟩) (v := ?_) (by kernel_rfl) (by kernel_rfl) rfl (by kernel_rfl) (by kernel_rfl) (by kernel_rfl) (fun _ _ _ h => h) (Or.inl ⟨by rfl, ?_⟩) (by assumption) ?_
                        rotate_left
                        · intro w hSw; (try dsimp only at hSw); (try go_split_ands); go_simp; (try (with_reducible rfl))
                        (try simp only [Act.put, List.setIfInBounds_toArray, List.set_cons_zero, List.set_cons_succ])
                        refine wpAnyR_take (i := 15) (oi := ⟨some 109, _, _, _, _, _⟩) (v := ?_) (by kernel_rfl) (by kernel_rfl) rfl (by kernel_rfl) (by kernel_rfl) (by kernel_rfl) (fun _ _ _ h => h) (Or.inl ⟨by rfl, ?_⟩) (by assumption) ?_
                        rotate_left
                        · intro w hSw; (try dsimp only at hSw); (try go_split_ands); go_simp; (try (with_reducible rfl))
                        (try simp only [Act.put, List.setIfInBounds_toArray, List.set_cons_zero, List.set_cons_succ])
                        refine wpAnyR_take (i := 16) (oi := ⟨some 110, _, _, _, _, _⟩) (v := ?_) (by kernel_rfl) (by kernel_rfl) rfl (by kernel_rfl) (by kernel_rfl) (by kernel_rfl) (fun _ _ _ h => h) (Or.inl ⟨by rfl, ?_⟩) (by assumption) ?_
                        rotate_left
                        · intro w hSw; (try dsimp only at hSw); (try go_split_ands); go_simp; (try (with_reducible rfl))
                        (try simp only [Act.put, List.setIfInBounds_toArray, List.set_cons_zero, List.set_cons_succ])
                        refine wpAnyR_one (i := 17) (o := ⟨some 111, _, _, _, _, _⟩) (by kernel_rfl) (by kernel_rfl) rfl (fun K hK => ?_)
                        go_simp
                        refine (hayloftref15_Joined.calls Ax cx x Ay cy y zr _ (Kd.C_drew hCx5) hlex (Kd.C_drew hCy5) hley hjn).mono ?_
                        rintro e W6 ⟨v6', rfl, hR6, hB6⟩
                        obtain ⟨A6, c6, rfl, hle6, hC6⟩ := Kd.R_reads hR6
                        have hB6' := btr' (below_drew (Below.refl _ W5)) hB6
                        (try dsimp only)
                        refine hK.out _ _ (.inr (HS4.out _ hB6')) ?_
                        clear hK K
                        (try simp only [Act.put, List.setIfInBounds_toArray, List.set_cons_zero, List.set_cons_succ])
                        refine wpAnyR_one (i := 18) (o := ⟨some 112, _, _, _, _, _⟩) (by kernel_rfl) (by kernel_rfl) rfl (fun K hK => ?_)
                        go_simp
                        refine (hayloftref02_SameRow.calls ks Az czc zr A6 c6 zr true W6 (Kd.C_below hCz hB6') hlez hC6 hle6 hks).mono ?_
                        rintro e W7 ⟨rfl, hd7'⟩
                        have hB7' := btr' hB6' hd7'.below
                        (try dsimp only)
                        refine hK.out _ _ (.inr (HS4.out _ hB7')) ?_
                        clear hK K
                        (try simp only [Act.put, List.setIfInBounds_toArray, List.set_cons_zero, List.set_cons_succ])
                        have hS47 := HS4.out _ hB7'
                        refine wpAnyR_take (i := 19) (oi := ⟨some 113, _, _, _, _, _⟩) (v := ?_) (by kernel_rfl) (by kernel_rfl) rfl (by kernel_rfl) (by kernel_rfl) (by kernel_rfl) (fun _ _ _ h => h) (Or.inl ⟨by rfl, ?_⟩) (by assumption) ?_
                        rotate_left
                        · intro w hSw; (try dsimp only at hSw); (try go_split_ands); go_simp; (try (with_reducible rfl))
                        (try simp only [Act.put, List.setIfInBounds_toArray, List.set_cons_zero, List.set_cons_succ])
                        refine wpAnyR_take (i := 20) (oi := ⟨some 114, _, _, _, _, _⟩) (v := ?_) (by kernel_rfl) (by kernel_rfl) rfl (by kernel_rfl) (by kernel_rfl) (by kernel_rfl) (fun _ _ _ h => h) (Or.inl ⟨by rfl, ?_⟩) (by assumption) ?_
                        rotate_left
                        · intro w hSw; (try dsimp only at hSw); (try go_split_ands); go_simp; (try (with_reducible rfl))
                        (try simp only [Act.put, List.setIfInBounds_toArray, List.set_cons_zero, List.set_cons_succ])
                        refine wpAnyR_done (by kernel_rfl) ?_ _
                        go_wp2_with fail
                        go_roundw
                        case rel => exact ⟨n + 1, Nat.succ_le_of_lt hlt2, by go_num, by rw [HSU.out, if_pos HYES.out, List.length_append, List.length_cons, List.length_nil]; go_num, btr' hBV5 hB7'⟩
                        case measure => simp [intOf]; omega
                      · have hno : okJ lo ro x y = false := by
                          cases h : okJ lo ro x y with
                          | false => rfl
                          | true => exact absurd (hok2.1 h) e3
                        have e3b : (z != 0) = true := by simpa using e3
                        have e3c : (z == 0) = false := by simpa using e3
                        have e3d : decide (z = 0) = false := by simpa using e3
                        go_wp2_with fail
                        go_roundw
                        case rel => exact ⟨n + 1, by omega, by go_num, by rw [hsu, if_neg (by rw [hno]; simp)], hBV5⟩
                        case measure => simp [intOf]; omega
            · obtain rfl : n = x1.length := by omega
              go_wp2_with fail
              go_roundw
              case rel => exact ⟨m + 1, by omega, by go_num, by rw [swP_full x0 x1 lo ro m hlt], hB⟩
              case measure => simp [intOf]; omega
        · obtain rfl : m = x0.length := by omega
          rw [List.take_length]
          go_wp2_with fail
          go_ret
          exact ⟨by simp, btr' hw8 hBo⟩
end Go.Proofs.Ytghblnldokpceaa.QV
