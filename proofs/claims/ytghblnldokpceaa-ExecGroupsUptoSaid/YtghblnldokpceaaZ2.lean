/- The parts Told, Group1, RoundW, GroupF, XOpen4, InsG, StabP, QVx6, QVx7, SortP, RoundX, Stab, Stab2, Stab3, GrpS, MinMax, Pick, GrpL, QVx9 of this proof, one behind the other. -/
import Derived.Test.YtghblnldokpceaaZ1
import Derived.Handy
import Derived.OrdersHeld
import Derived.OrdersIn
import Derived.TacticsIn
import Derived.RangeFuncCalls
import Derived.Deep.RegionHeld
import Derived.Lib.Overlaps
import Derived.Lib.AppendZerosOnto
import Derived.Shelf.RegionOpenPlain
import Derived.Laws.CopyRow
import Derived.Laws.Externs
import Derived.Below
/- (exec.group).told where a count is asked. -/
namespace Go.Proofs.Ytghblnldokpceaa.QV
open Go.RowKit Go.Proofs.YtghblnldokpceaaW.PrintWords Go.Proofs.Ytghblnldokpceaa.Seq Go.Shelf Go.Proofs.Ytghblnldokpceaa.Op
set_option linter.unusedVariables false
set_option linter.unusedSimpArgs false

theorem int_any (n : Int) (w : World) : Calls Try.prog 67 #[.int .i64 n] w fun e w' => e = .returned (.agg #[.int .i64 2, .bool false, .int .i64 n, .string ⟨#[]⟩]) ∧ Below w.heap.size w w' := by
  go_enter Try.func67, Try.ntmps67
  go_wp2
  go_returns
  all_goals (first | exact ⟨rfl, below_alloc (Below.refl _ _) _⟩ | skip)

set_option maxRecDepth 100000 in
set_option maxHeartbeats 2000000 in
theorem told_count (KA : Option Addr) (kn kc : Nat) (RA : Option Addr) (xs : List Row) (rc : Nat) (col : Int) (w : World) (hr : kRows.C w RA xs.length xs) (hbd : xs.length * 40 ≤ 140737488355328) :
    Calls Try.prog 45 #[.agg #[.slice KA kn kc, .slice RA xs.length rc], .agg #[.int .i64 0, .int .i64 col]] w fun e w' => e = .returned (.agg #[.int .i64 2, .bool false, .int .i64 xs.length, .string ⟨#[]⟩]) ∧ Below w.heap.size w w' := by
  have hmax := hr.2.1
  go_enter Try.func45, Try.ntmps45
  go_wp2
  obtain ⟨w2, hw2⟩ : ∃ w2, ((w.alloc (.cells #[.slice KA kn kc, .slice RA xs.length rc] 65)).alloc (.cells #[.int .i64 0, .int .i64 col] 48)).alloc (.cells #[.int .i64 0, .bool false, .int .i64 0, .string ⟨#[]⟩] 42) = w2 := ⟨_, rfl⟩
  rw [hw2]
  have hbw : Below w.heap.size w w2 := by rw [← hw2]; exact below_alloc (below_alloc (below_alloc (Below.refl _ _) _) _) _
  have g2 : w2.heap[w.heap.size]? = some (.cells #[.slice KA kn kc, .slice RA xs.length rc] 65 (0, 0)) := by rw [← hw2]; exact blk_alloc (blk_alloc (blk_new _ _) _) _
  have g3 : w2.heap[w.heap.size + 1]? = some (.cells #[.int .i64 0, .int .i64 col] 48 (0, 0)) := by
    have := blk_new (w.alloc (.cells #[.slice KA kn kc, .slice RA xs.length rc] 65)) (.cells #[.int .i64 0, .int .i64 col] 48)
    rw [World.size_alloc] at this
    rw [← hw2]; exact blk_alloc this _
  have g4 : w2.heap[w.heap.size + 1 + 1]? = some (.cells #[.int .i64 0, .bool false, .int .i64 0, .string ⟨#[]⟩] 42 (0, 0)) := by
    have := blk_new ((w.alloc (.cells #[.slice KA kn kc, .slice RA xs.length rc] 65)).alloc (.cells #[.int .i64 0, .int .i64 col] 48)) (.cells #[.int .i64 0, .bool false, .int .i64 0, .string ⟨#[]⟩] 42)
    rw [World.size_alloc, World.size_alloc] at this
    rw [← hw2]; exact this
  clear hw2
  go_loopw [5, 15] (fun l i wr => ∃ k : Nat, k ≤ xs.length ∧ i = .int .i64 k ∧ (∃ lst : Row, lst.length ≤ k ∧ kS.R tS wr w2.heap.size (fun _ => True) l lst) ∧ Below w2.heap.size w2 wr) (fun _ i _ => xs.length - (intOf i).toNat)
  case atStart => exact ⟨0, Nat.zero_le _, rfl, ⟨[], Nat.le_refl _, Kd.R_nil _ _ _ _ _⟩, Below.refl _ _⟩
  case round =>
    obtain ⟨k, hk, rfl, ⟨lst, hll, hl⟩, hB⟩ := hrel
    by_cases hlt : k < xs.length
    · have hr2 := Kd.C_below hr (hbw.trans (hB.mono hbw.size))
      obtain ⟨ad, cs, rfl, _, hK, hcs⟩ := Kd.C_get hr2 [] k (by omega) (by omega)
      obtain ⟨Ao, co, rfl, hleo, hCo⟩ := hK
      have hx : xs.getD (k : Int).toNat [] = xs.getD k [] := rfl
      rw [hx] at hleo hCo hcs
      have hc0 := hcs 0 _ rfl
      have hsz : kRows.sz = 1 := rfl
      rw [hsz, Int.toNat_natCast, Nat.mul_one, Nat.add_zero] at hc0
      generalize xs.getD k [] = x at *
      have ha := at_f x col
      generalize (atS x col).f0 = q0, (atS x col).f1 = q1, (atS x col).f2 = q2, (atS x col).f3 = q3 at ha
      have h31 := blk_cell (blk_below g3 hB) 1
      go_wp2_with fail
      refine (exec_at.calls Ao co x col _ _ _ _ wr hCo hleo ha).mono ?_
      rintro e W4 ⟨rfl, hb4⟩
      have hB4 : Below w2.heap.size w2 W4 := hB.trans (hb4.mono hB.size)
      have h30 := blk_cell (blk_alloc (blk_below g3 hB4) (.cells #[.int .i64 q0, .bool q1, .int .i64 q2, .string q3] 42)) 0
      have hl4 := Kd.R_below hl hb4
      by_cases hz : q0 = 0
      · subst hz
        go_wp2_with fail
        go_roundw
        case rel => exact ⟨k + 1, by omega, by go_num, ⟨lst, by omega, Kd.R_alloc hl4 _⟩, below_alloc hB4 _⟩
        case measure => simp [intOf]; omega
      · go_wp2_with (at_builtin; refine Kd.R_append kS (w0 := w2) w2.heap.size rfl (.tmp 36) (.tmp 38) 31 42 _ 40 rfl Try.underlying31 infoS rfl (by decide) (by decide) _ lst ⟨q0, q1, q2, q3⟩ [.int .i64 q0, .bool q1, .int .i64 q2, .string q3] (fun _ => True) (fun _ => False) rfl (slice_alloc _ _ _ _) (k42_mkM _ _ _ _) (fun _ h => h.elim) (fun _ _ => trivial) (Kd.R_alloc hl4 _) (below_alloc hB4 _) (by have := hB4.size; simp; omega) (by omega) ?_; intro v1 w1 hv1 hB1 hg1 hat1)
        go_roundw
        case rel => exact ⟨k + 1, by omega, by go_num, ⟨_, by simp; omega, hv1⟩, hB1⟩
        case measure => simp [intOf]; omega
    · obtain rfl : k = xs.length := by omega
      have h30 := blk_cell (blk_below g3 hB) 0
      have h21 := blk_cell (blk_below g2 hB) 1
      go_wp2_with fail
      refine (int_any _ _).mono ?_
      rintro e W5 ⟨rfl, hb5⟩
      have hB5 : Below w2.heap.size w2 W5 := hB.trans (hb5.mono hB.size)
      have hx4 := blk_below g4 hB5
      have n0 := blk_cell hx4 0
      have n1 := blk_cell hx4 1
      have n2 := blk_cell hx4 2
      have n3 := blk_cell hx4 3
      have m0 := blk_frozen hx4 0
      have m1 := blk_frozen hx4 1
      have m2 := blk_frozen hx4 2
      have m3 := blk_frozen hx4 3
      go_wp2_with fail
      refine bodyPost_ret (results_cell_row rfl _ _ (w.heap.size + 1 + 1) 42 #[.int .i64 2, .bool false, .int .i64 xs.length, .string ⟨#[]⟩] (0, 0) _ rfl (by have := blk_set (blk_set (blk_set (blk_set hx4 0 (.int .i64 2)) 1 (.bool false)) 2 (.int .i64 xs.length)) 3 (.string ⟨#[]⟩); simpa using this) Try.underlying42 rfl rfl) rfl ?_
      refine ⟨rfl, hbw.trans ((hB5.mono hbw.size).trans ?_)⟩
      have hk : ∀ (V : World) (j : Nat) (u : Value), Kpt (fun i => i = w.heap.size + 1 + 1) V (V.setCell ⟨w.heap.size + 1 + 1, j, none⟩ u) := fun V j u => Kpt.setCell V ⟨w.heap.size + 1 + 1, j, none⟩ u
      exact ((((hk _ _ _).trans (hk _ _ _) (fun _ _ h => h.elim id id)).trans (hk _ _ _) (fun _ _ h => h.elim id id)).trans (hk _ _ _) (fun _ _ h => h.elim id id)).below (by have := hbw.size; have := hB5.size; omega) (fun i _ e => by omega)
end Go.Proofs.Ytghblnldokpceaa.QV
/- The search for a group, of one group without a key. -/
namespace Go.Proofs.Ytghblnldokpceaa.QV
open Go.RowKit Go.Proofs.YtghblnldokpceaaW.PrintWords Go.Proofs.Ytghblnldokpceaa.Seq Go.Shelf Go.Proofs.Ytghblnldokpceaa.Op
set_option linter.unusedVariables false
set_option linter.unusedSimpArgs false

theorem cmpG_any (KA : Option Addr) (key : Row) (kc : Nat) (RA : Option Addr) (rn rc : Nat) (B : Option Addr) (k : Row) (bc : Nat) (w : World) (hk : kS.C w KA key.length key) (hkc : key.length ≤ kc) (hb : kS.C w B k.length k) (hbc : k.length ≤ bc) :
    Calls Try.prog 42 #[.agg #[.slice KA key.length kc, .slice RA rn rc], .slice B k.length bc] w fun e w' => e = .returned (.int .i64 (rowsV (key.map toV) (k.map toV))) ∧ Below w.heap.size w w' := by
  go_enter Try.func42, Try.ntmps42
  go_wp2_with fail
  refine (value_Rows.calls KA kc key B bc k _ _ (Kd.C_alloc hk _) hkc (Kd.C_alloc hb _) hbc rfl).mono ?_
  rintro e w1 ⟨rfl, hb1⟩
  go_wp2_with fail
  go_ret
  exact ⟨rfl, (below_alloc (Below.refl _ _) _).trans (hb1.mono (by simp))⟩

theorem search_one (g cap : Nat) (RA : Option Addr) (rn rc : Nat) (B : Option Addr) (bc : Nat) (w : World) (h0 : w.cell? ⟨g, 0, none⟩ = some (.slice none 0 0)) (h1 : w.cell? ⟨g, 1, none⟩ = some (.slice RA rn rc)) (hB : kS.C w B 0 []) :
    Calls Try.prog 41 #[.slice (some ⟨g, 0, none⟩) 1 cap, .slice B 0 bc, .func (.func 42) #[] #[]] w fun e w' => e = .returned (.tuple #[.int .i64 0, .bool true]) ∧ Below w.heap.size w w' := by
  go_enter Try.func41, Try.ntmps41
  go_wp2_with fail
  go_loopw [9, 10] (fun i j wr => i = .int .i64 0 ∧ (∃ m : Nat, m ≤ 1 ∧ j = .int .i64 m) ∧ Below w.heap.size w wr) (fun _ j _ => (intOf j).toNat)
  case atStart => exact ⟨rfl, ⟨1, by omega, rfl⟩, Below.refl _ _⟩
  case round =>
    obtain ⟨rfl, ⟨m, hm, rfl⟩, hBw⟩ := hrel
    have h0' := pw_cell_below hBw h0
    have h1' := pw_cell_below hBw h1
    rcases (by omega : m = 0 ∨ m = 1) with rfl | rfl
    · go_wp2_with fail
      refine (cmpG_any none [] 0 RA rn rc B [] bc _ (by simp [Kd.C, ReadsRow]) (by simp) (Kd.C_below hB hBw) (by simp)).mono ?_
      rintro e w1 ⟨rfl, hb1⟩
      go_wp2_with fail
      go_ret2
      exact ⟨rfl, hBw.trans (hb1.mono hBw.size)⟩
    · go_wp2_with fail
      refine (cmpG_any none [] 0 RA rn rc B [] bc _ (by simp [Kd.C, ReadsRow]) (by simp) (Kd.C_below hB hBw) (by simp)).mono ?_
      rintro e w1 ⟨rfl, hb1⟩
      have hr0 : rowsV (([] : Row).map toV) (([] : Row).map toV) = 0 := by simp [rowsV]
      rw [hr0]
      go_wp2_with fail
      go_roundw
      case rel => exact ⟨rfl, ⟨0, by omega, by go_num⟩, hBw.trans (hb1.mono hBw.size)⟩
      case measure => simp [intOf]
end Go.Proofs.Ytghblnldokpceaa.QV
/- exec.Group of one row without a key, where the rows are to be counted. -/
namespace Go.Proofs.Ytghblnldokpceaa.QV
open Go.RowKit Go.Proofs.YtghblnldokpceaaW.PrintWords Go.Proofs.Ytghblnldokpceaa.Seq Go.Shelf Go.Proofs.Ytghblnldokpceaa.Op
set_option linter.unusedVariables false
set_option linter.unusedSimpArgs false
attribute [local go_sem] Oper.semAt_some

/-- Two cells as they are. -/
def kRaw : Kd (Value × Value) where
  sz := 2
  E := []
  K _ x cs := cs = [x.1, x.2] ∧ x.1.oneCell' = true ∧ x.2.oneCell' = true
  M _ _ _ x cs := cs = [x.1, x.2] ∧ x.1.oneCell' = true ∧ x.2.oneCell' = true
  K_len h := by rw [h.1]; rfl
  K_one h u hu := by
    obtain ⟨rfl, h1, h2⟩ := h
    simp only [List.mem_cons, List.not_mem_nil, or_false] at hu
    rcases hu with rfl | rfl
    · exact h1
    · exact h2
  K_below _ h := h
  K_of_M h := h
  M_mono _ h := h
  M_bound h := h
  M_move _ h := h
  M_lower _ h := h
theorem infoG : (Try.prog.info? 65).map (fun i => (i.zero, i.size, i.bytes)) = some (some (.agg #[.slice none 0 0, .slice none 0 0]), 2, 48) := by kernel_rfl

/-- Between two rounds: one group, of the rows so far. -/
def GrpI (W : World) (cap : Nat) (pre : List Row) (M : Nat → Prop) (A : World) : Prop :=
  M W.heap.size ∧ M (W.heap.size + 1 + 1) ∧ A.heap[W.heap.size]? = some (.cells #[.slice (some ⟨W.heap.size + 1 + 1, 0, none⟩) 1 cap] 63 (0, 0)) ∧
    (∃ cs rv, A.heap[W.heap.size + 1 + 1]? = some (.cells cs 65 (0, 0)) ∧ cs[0]? = some (.slice none 0 0) ∧ cs[1]? = some rv ∧ Kd.S kRows tRow A W.heap.size (fun k => M k ∧ k ≠ W.heap.size ∧ k ≠ W.heap.size + 1 + 1) rv pre) ∧ (∀ i, M i → W.heap.size ≤ i) ∧ Below W.heap.size W A
theorem GrpI.kept {W : World} {cap : Nat} {pre : List Row} {M : Nat → Prop} {A B : World} {q : Nat → Prop} (h : GrpI W cap pre M A) (hq : ∀ i, q i → W.heap.size ≤ i) (hk : Kpt (fun i => q i ∧ ¬ M i) A B) : GrpI W cap pre M B := by
  obtain ⟨h1, h2, h3, ⟨cs, rv, h4, h5, h6, h7⟩, h8, h9⟩ := h
  exact ⟨h1, h2, hk.at h3 (fun h => h.2 h1), ⟨cs, rv, hk.at h4 (fun h => h.2 h2), h5, h6, Kd.S_step h7 (fun k hk' hlt => hk.block k hlt (fun h => h.2 hk'.1))⟩, h8, h9.trans (hk.below h9.size (fun i _ h => hq i h.1))⟩
theorem C_nil (w : World) : kS.C w none 0 [] := by simp [Kd.C, ReadsRow]
theorem clone_nil (w : World) : Calls Try.prog 33 #[.slice none 0 0] w fun e w' => e = .returned (.slice none 0 0) ∧ w' = w := by
  have hn := Lib.run_eql_slice_nil (P := Try.prog)
  go_enter Try.func33, Try.ntmps33
  go_wp2
  go_ret
  exact ⟨rfl, rfl⟩

def one1 : Row := [⟨2, false, 1, ⟨#[]⟩⟩]

set_option maxRecDepth 100000 in
set_option maxHeartbeats 4000000 in
theorem group_seq1 (row : Row) (sv : Value) (b1 b2 b3 ga ca : Nat) (w : World) (hR : IsSeq w sv [row])
    (h1 : w.cell? ⟨b1, 0, none⟩ = some (.slice none 0 0)) (h2 : w.cell? ⟨b2, 0, none⟩ = some sv) (h3 : w.cell? ⟨b3, 0, none⟩ = some (.slice (some ⟨ga, 0, none⟩) 1 ca)) (h4 : w.cell? ⟨ga, 0, none⟩ = some (.int .i64 0)) (h5 : w.cell? ⟨ga, 1, none⟩ = some (.int .i64 0))
    (hb : row.length ≤ 1048576) :
    SeqOf Try.prog 39 #[.pointer (some ⟨b1, 0, none⟩), .pointer (some ⟨b2, 0, none⟩), .pointer (some ⟨b3, 0, none⟩)] (RdNew w) [one1] w := by
  intro l J Jx W Mc hW hMc hJ hJx hY h0
  have hzw : w.heap.size ≤ W.heap.size := hW.size
  obtain ⟨gR, lbR, RdR, rfl, egR, hsR, hkR, hrR⟩ := hR
  refine (callsIn_wide (n := 0)).1 (callsIn_of_wp_marks Try.func39 rfl trivial ?_ rfl)
  simp only [Try.ntmps39, List.size_toArray, List.length_cons, List.length_nil, Nat.reduceAdd, Nat.reduceSub, Array.replicate_succ, Array.replicate_zero, List.push_toArray, List.append_toArray, List.nil_append, List.cons_append]
  have hbWa : Below W.heap.size W (W.alloc (.cells #[.slice none 0 0] 63)) := below_alloc (Below.refl _ _) _
  have d1 : (W.alloc (.cells #[.slice none 0 0] 63)).cell? ⟨b1, 0, none⟩ = some (.slice none 0 0) := pw_cell_below (hW.trans (hbWa.mono hzw)) h1
  obtain ⟨cap, hcap⟩ : ∃ cap, (Question.appendCap 1 0 65).cut (W.tape W.drawn (Question.appendCap 1 0 65)) = cap := ⟨_, rfl⟩
  obtain ⟨cs0, hcs0⟩ : ∃ cs0 : Array Value, #[Value.slice none 0 0, Value.slice none 0 0] ++ Builtin.zeroCells #[Value.slice none 0 0, Value.slice none 0 0] (cap - 1) = cs0 := ⟨_, rfl⟩
  obtain ⟨W1, hW1⟩ : ∃ W1, (((W.alloc (.cells #[.slice (some ⟨W.heap.size + 1 + 1, 0, none⟩) 1 cap] 63)).alloc (.cells #[.slice none 0 0, .slice none 0 0] 65)).alloc (.cells cs0 65)).drew = W1 := ⟨_, rfl⟩
  have hbW1 : Below W.heap.size W W1 := by rw [← hW1]; exact below_drew (below_alloc (below_alloc (below_alloc (Below.refl _ _) _) _) _)
  have hszW1 : W1.heap.size = W.heap.size + 3 := by rw [← hW1]; simp
  have hx5 : W1.heap[W.heap.size]? = some (.cells #[.slice (some ⟨W.heap.size + 1 + 1, 0, none⟩) 1 cap] 63 (0, 0)) := by rw [← hW1]; exact blk_drew (blk_alloc (blk_alloc (blk_new _ _) _) _)
  have hxg : W1.heap[W.heap.size + 1 + 1]? = some (.cells cs0 65 (0, 0)) := by
    have := blk_new ((W.alloc (.cells #[.slice (some ⟨W.heap.size + 1 + 1, 0, none⟩) 1 cap] 63)).alloc (.cells #[.slice none 0 0, .slice none 0 0] 65)) (.cells cs0 65)
    rw [World.size_alloc, World.size_alloc] at this
    rw [← hW1]; exact blk_drew this
  have k0 : cs0[0]? = some (.slice none 0 0) := by rw [← hcs0, Array.getElem?_append_left (by simp)]; rfl
  have k1 : cs0[1]? = some (.slice none 0 0) := by rw [← hcs0, Array.getElem?_append_left (by simp)]; rfl
  have d2 : W1.cell? ⟨b2, 0, none⟩ = some (.func (.func gR) #[] lbR) := pw_cell_below (hW.trans (hbW1.mono hzw)) h2
  gi_wp2
  clear hW1 hcs0 hcap d1
  refine wpIn_range (gf := gR) (lb := lbR) rfl egR hsR (hW.trans (hbW1.mono hzw)) (fun A N x vs h => by obtain ⟨Ad, c, rfl, _⟩ := hrR _ _ _ _ h; rfl) hkR
    (GrpI W cap) (fun _ _ _ _ => False) (fun pre M A B h hk => h.kept (fun i h => by omega) hk) (fun _ _ _ _ _ h _ => h)
    (fun i => i = W.heap.size ∨ i = W.heap.size + 1 + 1) ?hM ?h0 (fun x vs a₁ M A => ∃ v, vs = #[v] ∧ a₁ = { tmps := #[.func (.yield l) #[] #[], .pointer (some ⟨b1, 0, none⟩), .pointer (some ⟨b2, 0, none⟩), .pointer (some ⟨b3, 0, none⟩), undef, .pointer (some ⟨W.heap.size, 0, none⟩), v, undef, undef, undef, undef, undef, undef, undef, undef, .slice none 0 0, .int .i64 0, .bool true, .slice none 0 0, .agg #[.slice none 0 0, .slice none 0 0], .slice (some ⟨W.heap.size + 1, 0, none⟩) 1 1, .slice (some ⟨W.heap.size + 1 + 1, 0, none⟩) 1 cap, .func (.func gR) #[] lbR, v] ++ Array.replicate 57 undef, defers := [] })
    (fun _ _ _ _ _ _ h _ => h) ?assign ?body ?done ?stop
  case hM => intro i hi; omega
  case h0 => exact ⟨.inl rfl, .inr rfl, hx5, ⟨cs0, _, hxg, k0, k1, Kd.S_nil _ _ _ _ _⟩, fun i hi => by omega, hbW1⟩
  case stop =>
    intro D c pre W M' hpre h
    exact h.elim
  case assign =>
    intro l2 pre x vs N A M hI hpre hrd hM hN
    obtain ⟨Ad, c, rfl, hle, hC⟩ := hrR _ _ _ _ hrd
    gi_wp2
    refine ⟨M, fun i hi => ⟨.inl hi, (hM i hi).2⟩, Kpt.refl _ _, hI, _, rfl, ?_⟩
    simp only [List.size_toArray, List.length_cons, List.length_nil, Nat.reduceAdd, Nat.reduceSub, Array.replicate_succ, Array.replicate_zero, List.push_toArray, List.append_toArray, List.nil_append, List.cons_append]
  case body =>
    intro l2 pre x vs N A M a₁ hI hpre hrd hax hM hN
    obtain ⟨v, rfl, rfl⟩ := hax
    simp only [List.size_toArray, List.length_cons, List.length_nil, Nat.reduceAdd, Nat.reduceSub, Array.replicate_succ, Array.replicate_zero, List.push_toArray, List.append_toArray, List.nil_append, List.cons_append]
    have hpl : pre = [] ∧ x = row := by
      obtain ⟨t, ht⟩ := hpre
      cases pre with
      | nil => simp at ht; exact ⟨rfl, ht.1⟩
      | cons a b => simp at ht
    obtain ⟨rfl, rfl⟩ := hpl
    obtain ⟨hMB, hMG, hbx, ⟨cs, rv, hbg, c0, c1, hS⟩, hMW, hBW⟩ := hI
    obtain ⟨Ad, c, hvv, hle, hC⟩ := hrR _ _ _ _ hrd
    obtain rfl : v = .slice Ad x.length c := by simpa using hvv
    clear hvv
    obtain ⟨RA, rc, rfl⟩ := Kd.S_slice hS
    have d1 : A.cell? ⟨b1, 0, none⟩ = some (.slice none 0 0) := pw_cell_below (hW.trans (hBW.mono hzw)) h1
    have hzA : W.heap.size + 1 + 1 < A.heap.size := blk_lt hbg
    gi_wp2
    refine ⟨trivial, rfl, calls_in _ _ ((exec_picked.calls 1 Ad c x none 0 [] [] A hC hle (by simp [Kd.C, ReadsRow]) (by simp) (by simp [exec_picked.f, exec_picked.l0])).mono ?_)⟩
    rintro e W2 ⟨vk, rfl, hk, hb2⟩
    obtain ⟨KB, kc, rfl, hkle, hkC⟩ := Kd.R_reads hk
    simp only [List.length_nil] at hkC hkle ⊢
    have hbx2 := blk_below hbx hb2
    have hbg2 := blk_below hbg hb2
    have e5 : W2.cell? ⟨W.heap.size, 0, none⟩ = some (.slice (some ⟨W.heap.size + 1 + 1, 0, none⟩) 1 cap) := blk_cell hbx2 0
    have g0 : W2.cell? ⟨W.heap.size + 1 + 1, 0, none⟩ = some (.slice none 0 0) := (blk_cell hbg2 0).trans c0
    have g1 : W2.cell? ⟨W.heap.size + 1 + 1, 1, none⟩ = some (.slice RA 0 rc) := (blk_cell hbg2 1).trans c1
    gi_wp2
    refine ⟨trivial, rfl, calls_in _ _ ((search_one (W.heap.size + 1 + 1) cap RA 0 rc KB kc W2 g0 g1 hkC).mono ?_)⟩
    rintro e W3 ⟨rfl, hb3⟩
    have hb3A : Below A.heap.size A W3 := hb2.trans (hb3.mono hb2.size)
    have hbx3 := blk_below hbx hb3A
    have hbg3 := blk_below hbg hb3A
    gi_wp2
    have S0 : ∀ V : World, Below A.heap.size A V → V.cell? ⟨W.heap.size, 0, none⟩ = some (.slice (some ⟨W.heap.size + 1 + 1, 0, none⟩) 1 cap) ∧ V.cell? ⟨W.heap.size + 1 + 1, 1, none⟩ = some (.slice RA 0 rc) ∧ V.frozen? ⟨W.heap.size + 1 + 1, 1, none⟩ = false :=
      fun V hV => ⟨blk_cell (blk_below hbx hV) 0, (blk_cell (blk_below hbg hV) 1).trans c1, blk_frozen (blk_below hbg hV) 1⟩
    refine wpIn_region_R 13 (S := fun V => V.cell? ⟨W.heap.size, 0, none⟩ = some (.slice (some ⟨W.heap.size + 1 + 1, 0, none⟩) 1 cap) ∧ V.cell? ⟨W.heap.size + 1 + 1, 1, none⟩ = some (.slice RA 0 rc) ∧ V.frozen? ⟨W.heap.size + 1 + 1, 1, none⟩ = false) (by kernel_rfl) (S0 _ (hb3A.trans ((below_drew (Below.refl _ _)).mono hb3A.size))) (fun hS0 => ?_)
    refine wpAnyR_take (i := 0) (oi := ⟨some 41, _, _, _, _, _⟩) (v := ?_) (by kernel_rfl) (by kernel_rfl) rfl (by kernel_rfl) (by kernel_rfl) (by kernel_rfl) (fun _ _ _ h => h) (Or.inl ⟨by rfl, ?_⟩) (by assumption) ?_
    rotate_left
    · intro w hSw; (try dsimp only at hSw); (try go_split_ands); go_simp; (try (with_reducible rfl))
    (try simp only [Act.put, List.setIfInBounds_toArray, List.set_cons_zero, List.set_cons_succ])
    refine wpAnyR_take (i := 1) (oi := ⟨some 42, _, _, _, _, _⟩) (v := ?_) (by kernel_rfl) (by kernel_rfl) rfl (by kernel_rfl) (by kernel_rfl) (by kernel_rfl) (fun _ _ _ h => h) (Or.inl ⟨by rfl, ?_⟩) (by assumption) ?_
    rotate_left
    · intro w hSw; (try dsimp only at hSw); (try go_split_ands); go_simp; (try (with_reducible rfl))
    (try simp only [Act.put, List.setIfInBounds_toArray, List.set_cons_zero, List.set_cons_succ])
    refine wpAnyR_take (i := 2) (oi := ⟨some 43, _, _, _, _, _⟩) (v := ?_) (by kernel_rfl) (by kernel_rfl) rfl (by kernel_rfl) (by kernel_rfl) (by kernel_rfl) (fun _ _ _ h => h) (Or.inl ⟨by rfl, ?_⟩) (by assumption) ?_
    rotate_left
    · intro w hSw; (try dsimp only at hSw); (try go_split_ands); go_simp; (try (with_reducible rfl))
    (try simp only [Act.put, List.setIfInBounds_toArray, List.set_cons_zero, List.set_cons_succ])
    refine wpAnyR_take (i := 3) (oi := ⟨some 44, _, _, _, _, _⟩) (v := ?_) (by kernel_rfl) (by kernel_rfl) rfl (by kernel_rfl) (by kernel_rfl) (by kernel_rfl) (fun _ _ _ h => h) (Or.inl ⟨by rfl, ?_⟩) (by assumption) ?_
    rotate_left
    · intro w hSw; (try dsimp only at hSw); (try go_split_ands); go_simp; (try (with_reducible rfl))
    (try simp only [Act.put, List.setIfInBounds_toArray, List.set_cons_zero, List.set_cons_succ])
    refine wpAnyR_take (i := 4) (oi := ⟨some 45, _, _, _, _, _⟩) (v := ?_) (by kernel_rfl) (by kernel_rfl) rfl (by kernel_rfl) (by kernel_rfl) (by kernel_rfl) (fun _ _ _ h => h) (Or.inl ⟨by rfl, ?_⟩) (by assumption) ?_
    rotate_left
    · intro w hSw; (try dsimp only at hSw); (try go_split_ands); go_simp; (try (with_reducible rfl))
    (try simp only [Act.put, List.setIfInBounds_toArray, List.set_cons_zero, List.set_cons_succ])
    refine wpAnyR_take (i := 5) (oi := ⟨some 46, _, _, _, _, _⟩) (v := ?_) (by kernel_rfl) (by kernel_rfl) rfl (by kernel_rfl) (by kernel_rfl) (by kernel_rfl) (fun _ _ _ h => h) (Or.inl ⟨by rfl, ?_⟩) (by assumption) ?_
    rotate_left
    · intro w hSw; (try dsimp only at hSw); (try go_split_ands); go_simp; (try (with_reducible rfl))
    (try simp only [Act.put, List.setIfInBounds_toArray, List.set_cons_zero, List.set_cons_succ])
    refine wpAnyR_take (i := 6) (oi := ⟨some 47, _, _, _, _, _⟩) (v := ?_) (by kernel_rfl) (by kernel_rfl) rfl (by kernel_rfl) (by kernel_rfl) (by kernel_rfl) (fun _ _ _ h => h) (Or.inl ⟨by rfl, ?_⟩) (by assumption) ?_
    rotate_left
    · intro w hSw; (try dsimp only at hSw); (try go_split_ands); go_simp; (try (with_reducible rfl))
    (try simp only [Act.put, List.setIfInBounds_toArray, List.set_cons_zero, List.set_cons_succ])
    refine wpAnyR_take (i := 7) (oi := ⟨some 48, _, _, _, _, _⟩) (v := ?_) (by kernel_rfl) (by kernel_rfl) rfl (by kernel_rfl) (by kernel_rfl) (by kernel_rfl) (fun _ _ _ h => h) (Or.inl ⟨by rfl, ?_⟩) (by assumption) ?_
    rotate_left
    · intro w hSw; (try dsimp only at hSw); (try go_split_ands); go_simp; (try (with_reducible rfl))
    (try simp only [Act.put, List.setIfInBounds_toArray, List.set_cons_zero, List.set_cons_succ])
    refine wpAnyR_one (i := 8) (o := ⟨some 49, _, _, _, _, _⟩) (by kernel_rfl) (by kernel_rfl) rfl (fun K hK => ?_)
    go_simp
    refine (clone_any Ad x c W3.drew (Kd.C_below (Kd.C_below hC hb3A) (below_drew (Below.refl _ _))) hle (by omega)).mono ?_
    rintro e W4 ⟨v1, rfl, hR1, hb4⟩
    have hb4A : Below A.heap.size A W4 := hb3A.trans (((below_drew (Below.refl _ W3)).trans hb4).mono hb3A.size)
    (try dsimp only)
    refine hK.out _ _ (.inr (S0 _ hb4A)) ?_
    clear hK K
    (try simp only [Act.put, List.setIfInBounds_toArray, List.set_cons_zero, List.set_cons_succ])
    obtain ⟨A1, a1c, rfl, hle1, hC1⟩ := Kd.R_reads hR1
    refine wpAnyR_one (i := 9) (o := ⟨some 50, _, _, _, _, _⟩) (by kernel_rfl) (by kernel_rfl) rfl (fun K hK => ?_)
    go_simp
    refine hK.out _ _ (.inr (S0 _ (below_alloc hb4A _))) ?_
    clear hK K
    (try simp only [Act.put, List.setIfInBounds_toArray, List.set_cons_zero, List.set_cons_succ])
    refine wpAnyR_one (i := 10) (o := ⟨some 51, _, _, _, _, _⟩) (by kernel_rfl) (by kernel_rfl) rfl (fun K hK => ?_)
    have hzA4 : A.heap.size ≤ W4.heap.size := hb4A.size
    have hzA3 : A.heap.size ≤ W3.heap.size := hb3A.size
    refine Kd.S_append_step kRows (w0 := A) W.heap.size (by rfl) (.tmp 47) (.tmp 50) 22 31 _ 24 rfl Try.underlying22 infoRow rfl (by decide) (by decide) (.slice RA 0 rc) [] x [.slice A1 x.length a1c]
      (fun k => (M k ∧ k ≠ W.heap.size ∧ k ≠ W.heap.size + 1 + 1) ∨ A.heap.size ≤ k) (fun k => (Value.slice A1 x.length a1c).ownBlock = some k) rfl rfl ⟨_, rfl, RS_ok (Kd.R_lower hR1 (by show W.heap.size ≤ W3.heap.size; omega)) (fun _ h => h)⟩ ?_ (fun k hk => .inr (by omega)) ?_ (hb4A.mono (by omega)) (by omega) (by decide) ?_
    · intro k hk
      have := Kd.R_base hR1 k hk
      exact ⟨.inr (Nat.le_trans hzA3 this), fun e => by have h2 := Kd.S_lt hS k e.symm; exact absurd this (by show ¬ W3.heap.size ≤ k; omega)⟩
    · refine Kd.S_mono (Kd.S_below (Kd.S_bound hS) hb4A) (fun k hk => ⟨.inl hk.1, fun h => ?_⟩)
      have := Kd.R_base hR1 k h
      exact absurd this (by show ¬ W3.heap.size ≤ k; have := hk.2.2.1; omega)
    intro v2 W5 hS2 hB2 hg2 hat2
    obtain ⟨g2, cap2, rfl, hg2b, hg2l, cells2, hcells2⟩ := Kd.S_form hS2 (by simp)
    simp only [List.nil_append, List.length_cons, List.length_nil, Nat.zero_add] at hS2 ⊢
    have hbx5 := blk_grown (blk_below hbx hb4A) hg2 (Kd.S_away hS (fun k hk => hk.2.1))
    have hbg5 := blk_grown (blk_below hbg hb4A) hg2 (Kd.S_away hS (fun k hk => hk.2.2))
    refine hK.out _ _ (.inr ⟨blk_cell hbx5 0, (blk_cell hbg5 1).trans c1, blk_frozen hbg5 1⟩) ?_
    clear hK K
    (try simp only [Act.put, List.setIfInBounds_toArray, List.set_cons_zero, List.set_cons_succ])
    have hS05 : W5.cell? ⟨W.heap.size, 0, none⟩ = some (.slice (some ⟨W.heap.size + 1 + 1, 0, none⟩) 1 cap) ∧ W5.cell? ⟨W.heap.size + 1 + 1, 1, none⟩ = some (.slice RA 0 rc) ∧ W5.frozen? ⟨W.heap.size + 1 + 1, 1, none⟩ = false := ⟨blk_cell hbx5 0, (blk_cell hbg5 1).trans c1, blk_frozen hbg5 1⟩
    refine wpAnyR_one (i := 11) (o := ⟨some 52, _, _, _, _, _⟩) (by kernel_rfl) (by kernel_rfl) rfl (fun K hK => ?_)
    go_simp
    refine hK.out _ _ (.inr hS05) ?_
    clear hK K
    (try simp only [Act.put, List.setIfInBounds_toArray, List.set_cons_zero, List.set_cons_succ])
    refine wpAnyR_one (i := 12) (o := ⟨some 53, _, _, _, _, _⟩) (by kernel_rfl) (by kernel_rfl) rfl (fun K hK => ?_)
    go_simp
    refine hK.out _ _ (.inr hS05) ?_
    clear hK K
    (try simp only [Act.put, List.setIfInBounds_toArray, List.set_cons_zero, List.set_cons_succ])
    have hcg : W5.cell? ⟨W.heap.size + 1 + 1, 1, none⟩ = some (.slice RA 0 rc) := hS05.2.1
    have hfg : W5.frozen? ⟨W.heap.size + 1 + 1, 1, none⟩ = false := hS05.2.2
    refine wpAnyR_one (i := 13) (o := ⟨none, _, _, _, _, _⟩) (by kernel_rfl) (by kernel_rfl) rfl (fun K hK => ?_)
    go_simp
    refine hK.out _ _ (.inl rfl) ?_
    clear hK K
    (try simp only [Act.put, List.setIfInBounds_toArray, List.set_cons_zero, List.set_cons_succ])
    refine wpAnyR_done (by kernel_rfl) ?_ _
    gi_wp2
    have hzA5 : W4.heap.size ≤ W5.heap.size := hg2.size
    obtain ⟨W6, hW6⟩ : ∃ W6, W5.setCell ⟨W.heap.size + 1 + 1, 1, none⟩ (.slice (some ⟨g2, 0, none⟩) 1 cap2) = W6 := ⟨_, rfl⟩
    rw [hW6]
    have hk6 : Kpt (fun i => i = W.heap.size + 1 + 1) W5 W6 := by rw [← hW6]; exact Kpt.setCell W5 ⟨W.heap.size + 1 + 1, 1, none⟩ _
    have hbx6 := hk6.at hbx5 (by omega)
    have hbg6 : W6.heap[W.heap.size + 1 + 1]? = some (.cells (cs.setIfInBounds 1 (.slice (some ⟨g2, 0, none⟩) 1 cap2)) 65 (0, 0)) := by rw [← hW6]; exact blk_set hbg5 1 _
    have hS6 : Kd.S kRows tRow W6 W.heap.size (fun k => ((M k ∧ k ≠ W.heap.size ∧ k ≠ W.heap.size + 1 + 1) ∨ A.heap.size ≤ k) ∧ k < W6.heap.size) (.slice (some ⟨g2, 0, none⟩) 1 cap2) [x] := by
      have h3 : Kd.S kRows tRow W6 W.heap.size (fun k => (M k ∧ k ≠ W.heap.size ∧ k ≠ W.heap.size + 1 + 1) ∨ A.heap.size ≤ k) (.slice (some ⟨g2, 0, none⟩) 1 cap2) [x] := by
        rw [← hW6]
        exact Kd.S_far (p := ⟨W.heap.size + 1 + 1, 1, none⟩) hS2 (fun k hk => by rcases hk with hk | hk; exact hk.2.2; show k ≠ W.heap.size + 1 + 1; omega) _
      exact Kd.S_mono (Kd.S_bound h3) (fun k hk => ⟨hk.1, hk.2.2.1⟩)
    have hKA6 : Kpt M A W6 := by
      refine ((Kpt.of_new M hb4A).trans (Kpt.grown hg2) (M := M) (fun i hi h => ?_)).trans hk6 (fun i hi h => ?_)
      · rcases h with h | h
        · exact h
        · exact ((Kd.S_R hS).1 i h.symm).1
      · rcases h with h | h
        · exact h
        · rw [h]; exact hMG
    have hz6 := hKA6.size
    have hcs1 : 1 < cs.size := by
      rcases Nat.lt_or_ge 1 cs.size with h | h
      · exact h
      · rw [Array.getElem?_eq_none h] at c1; cases c1
    refine ⟨fun i => (M i ∨ A.heap.size ≤ i) ∧ i < W6.heap.size, fun i hi => ⟨by rcases hi.1 with h | h; exact .inl h; exact .inr (.inr h), hi.2⟩, hKA6.mono (fun _ _ h => .inl h), ⟨.inl hMB, by omega⟩, ⟨.inl hMG, by omega⟩, hbx6, ⟨cs.setIfInBounds 1 (.slice (some ⟨g2, 0, none⟩) 1 cap2), .slice (some ⟨g2, 0, none⟩) 1 cap2, hbg6, ?_, ?_, ?_⟩, fun i hi => by rcases hi.1 with h | h; exact hMW i h; omega, hBW.trans (hKA6.below hBW.size (fun i _ h => hMW i h))⟩
    · rw [Array.getElem?_setIfInBounds_ne (by omega)]; exact c0
    · rw [Array.getElem?_setIfInBounds_self_of_lt hcs1]
    · refine Kd.S_mono hS6 (fun k hk' => ?_)
      have hlt' := hk'.2
      rcases hk'.1 with h | h
      · exact ⟨⟨.inl h.1, by omega⟩, h.2.1, h.2.2⟩
      · exact ⟨⟨.inr h, by omega⟩, by omega, by omega⟩
  case done =>
    intro D W2 M' hI hk hM' hD hDw hDM
    obtain ⟨hMB, hMG, hbx, ⟨cs, rv, hbg, c0, c1, hS⟩, hMW, hBW⟩ := hI
    obtain ⟨RA, rc, rfl⟩ := Kd.S_slice hS
    simp only [List.length_cons, List.length_nil, Nat.zero_add] at c1 hS
    have hr := (Kd.S_reads' hS).2.2
    have e5 : W2.cell? ⟨W.heap.size, 0, none⟩ = some (.slice (some ⟨W.heap.size + 1 + 1, 0, none⟩) 1 cap) := blk_cell hbx 0
    have hbwW2 : Below w.heap.size w W2 := hW.trans (hBW.mono hzw)
    have hMcW : ∀ i, Mc i → i < W.heap.size := fun i h => (hMc i h).2
    have hzW2 := hBW.size
    gi_wp2
    gi_loopw [56] (fun i wr => (i = .int .i64 0 ∧ wr = W2) ∨ (i = .int .i64 1 ∧ ∃ M9, J [one1] M9 wr ∧ (∀ i, M9 i → (Mc i ∨ W2.heap.size ≤ i) ∧ i < wr.heap.size) ∧ Kpt Mc W2 wr)) (fun i _ => 1 - (intOf i).toNat)
    case atStart => exact .inl ⟨rfl, rfl⟩
    case round =>
      rcases hrel with ⟨rfl, hwr⟩ | ⟨rfl, M9, hJ9, hM9, hk9⟩
      · obtain rfl := hwr.symm
        have g0 : W2.cell? ⟨W.heap.size + 1 + 1, 0, none⟩ = some (.slice none 0 0) := (blk_cell hbg 0).trans c0
        have g1 : W2.cell? ⟨W.heap.size + 1 + 1, 1, none⟩ = some (.slice RA 1 rc) := (blk_cell hbg 1).trans c1
        gi_wp2
        refine ⟨trivial, rfl, callsIn_wide.2 ((clone_nil _).mono ?_)⟩
        rintro e W3 ⟨rfl, rfl⟩
        have hb3 : Below W2.heap.size W2 (W2.alloc (.cells #[.slice none 0 0, .slice RA 1 rc] 65)) := below_alloc (Below.refl _ _) _
        have d3 : (W2.alloc (.cells #[.slice none 0 0, .slice RA 1 rc] 65)).cell? ⟨b3, 0, none⟩ = some (.slice (some ⟨ga, 0, none⟩) 1 ca) := pw_cell_below (hbwW2.trans (hb3.mono hbwW2.size)) h3
        gi_wp2
        obtain ⟨W3, hW3⟩ : ∃ W3, W2.alloc (.cells #[.slice none 0 0, .slice RA 1 rc] 65) = W3 := ⟨_, rfl⟩
        rw [hW3] at d3 hb3 ⊢
        have hsz3 : W3.heap.size = W2.heap.size + 1 := by rw [← hW3]; simp
        have hx11 : W3.heap[W2.heap.size]? = some (.cells #[.slice none 0 0, .slice RA 1 rc] 65 (0, 0)) := by rw [← hW3]; exact blk_new _ _
        clear hW3
        have hbw3 : Below w.heap.size w W3 := hbwW2.trans (hb3.mono hbwW2.size)
        gi_loopw [12, 65] (fun out i V => (out = .slice none 0 0 ∧ i = .int .i64 0 ∧ V = W3) ∨ (i = .int .i64 1 ∧ kS.R tS V W3.heap.size (fun _ => True) out one1 ∧ Below W3.heap.size W3 V)) (fun _ i _ => 1 - (intOf i).toNat)
        case atStart => exact .inl ⟨rfl, rfl, rfl⟩
        case round =>
          rcases hrel with ⟨rfl, rfl, hwr⟩ | ⟨rfl, hRo, hBo⟩
          · obtain rfl := hwr.symm
            refine wpIn_wide.2 ?_
            have a0 := pw_cell_below hbw3 h4
            have a1 := pw_cell_below hbw3 h5
            have f0 := blk_cell (blk_alloc hx11 (.cells #[.int .i64 0, .int .i64 0] 48)) 0
            have f1 := blk_cell (blk_alloc hx11 (.cells #[.int .i64 0, .int .i64 0] 48)) 1
            go_wp2_with fail
            refine (told_count none 0 0 RA [row] rc 0 _ (Kd.C_alloc (Kd.C_below hr hb3) _) (by simp)).mono ?_
            rintro e W5 ⟨rfl, hb5⟩
            have hb5' : Below W3.heap.size W3 W5 := (below_alloc (Below.refl _ _) _).trans (hb5.mono (by simp))
            have h1l : (([row] : List Row).length : Int) = 1 := rfl
            rw [h1l]
            go_wp2_with (at_builtin; refine Kd.R_append kS (w0 := W3) W3.heap.size rfl (.tmp 69) (.tmp 73) 31 42 _ 40 rfl Try.underlying31 infoS rfl (by decide) (by decide) (.slice none 0 0) [] ⟨2, false, 1, ⟨#[]⟩⟩ [.int .i64 2, .bool false, .int .i64 1, .string ⟨#[]⟩] (fun _ => True) (fun _ => False) rfl rfl (k42_mkM _ _ _ _) (fun _ h => h.elim) (fun _ _ => trivial) (Kd.R_nil _ _ _ _ _) hb5' (by have := hb5'.size; omega) (by decide) ?_; intro v1 w1 hv1 hB1 hg1 hat1)
            go_roundw
            case rel => exact .inr ⟨by go_num, hv1, hB1⟩
            case measure => simp [intOf]
          · have hcl : [] ++ [one1] <+: [one1] := by simp
            have hbo2 : Below W2.heap.size W2 wr := hb3.trans (hBo.mono hb3.size)
            have hszo := hBo.size
            obtain ⟨fn, tmps, assign, body, hy, hR9⟩ := hY [] one1 #[u12] (fun i => W3.heap.size ≤ i ∧ i < wr.heap.size) wr Mc (hJ _ _ _ _ h0 (Kpt.of_new _ (hBW.trans (hbo2.mono hBW.size)))) hcl
              ⟨_, rfl, Kd.R_lower (Kd.R_mono (Kd.R_bound hRo) (fun i hi => ⟨hi.2.1, hi.2.2.1⟩)) (by have := hbwW2.size; omega), fun i hi => hi.2⟩
              (fun i hi => ⟨(hMc i hi).1, by have := hMcW i hi; omega⟩) (fun i hi => ⟨by omega, hi.2, fun h => by have := hMcW i h; omega⟩) (by omega)
            gi_wp2
            refine ⟨rfl, hR9.mono ?_⟩
            rintro e W9 ⟨M9, hM9, hk9, hor⟩
            have hMM : ∀ i, M9 i → (Mc i ∨ W2.heap.size ≤ i) ∧ i < W9.heap.size := fun i hi => ⟨by rcases (hM9 i hi).1 with h | h | h; exact .inl h; exact .inr (by omega); exact .inr (by omega), (hM9 i hi).2⟩
            have hKK : Kpt Mc W2 W9 := (Kpt.of_new Mc hbo2).trans hk9 (fun i hi h => by
              rcases h with h | h | h
              · exact h
              · exact h
              · omega)
            rcases hor with ⟨rfl, hJ9⟩ | ⟨rfl, hJ9⟩
            · gi_wp2
              go_roundw
              case rel => exact .inr ⟨by go_num, M9, hJ9, hMM, hKK⟩
              case measure => simp [intOf]
            · gi_wp2
              have hDW : W.heap.size ≤ D := by omega
              have hD2 : D < W2.heap.size := (Array.getElem?_eq_some_iff.1 hD).1
              have hDk : W9.heap[D]? = some (.deferred (some [])) := hKK.at hD (fun h => by have := hMcW D h; omega)
              refine ⟨by simp, .inl ⟨_, _, rfl, run_takeDeferred hDk, ?_⟩⟩
              obtain ⟨M4, h41, h42, h43⟩ := J2.ends (o := .deferred none) hJx hMcW hBW (⟨M9, hJ9, fun i => Iff.rfl, hMM, hKK⟩ : J2 Jx Mc W W2 [one1] (fun i => M9 i ∨ (W.heap.size ≤ i ∧ i < W2.heap.size)) W9) hDW (fun h => by omega)
              exact ⟨_, results_none rfl _ _ _, ⟨_, rfl⟩, M4, h41, h42, .inr ⟨_, hcl, h43⟩⟩
      · gi_wp2
        have hDW : W.heap.size ≤ D := by omega
        have hD2 : D < W2.heap.size := (Array.getElem?_eq_some_iff.1 hD).1
        have hDk : wr.heap[D]? = some (.deferred (some [])) := hk9.at hD (fun h => by have := hMcW D h; omega)
        refine ⟨by simp, .inl ⟨_, _, rfl, run_takeDeferred hDk, ?_⟩⟩
        obtain ⟨M4, h41, h42, h43⟩ := J2.ends (o := .deferred none) hJ hMcW hBW (⟨M9, hJ9, fun i => Iff.rfl, hM9, hk9⟩ : J2 J Mc W W2 [one1] (fun i => M9 i ∨ (W.heap.size ≤ i ∧ i < W2.heap.size)) wr) hDW (fun h => by omega)
        exact ⟨_, results_none rfl _ _ _, ⟨_, rfl⟩, M4, h41, h42, .inl h43⟩
end Go.Proofs.Ytghblnldokpceaa.QV
/- XRound outside a round (printed from XRound): one condition S on the world for the whole region; what yields its value in every world that meets S is taken first. -/
namespace Go.Proofs.Ytghblnldokpceaa.SeqW
open Go Go.RowKit
set_option linter.unusedVariables false

abbrev Rn (l : Nat) : Fence := Fence.wide
theorem calls_in (l n : Nat) {P : Program} {f : FuncId} {args : Array Value} {w : World} {R : Ending → World → Prop} (h : Calls P f args w R) : CallsIn (Rn l) n P f args w R :=
  callsIn_wide.2 h
theorem rows_in (l n : Nat) {P : Program} {row : String} {args : Array Value} {w : World} {R : Value → World → Prop} (h : Rows P row args w R) : RowsIn (Rn l) n P row args w R := by
  intro c cs _
  obtain ⟨v, w', r, s⟩ := h c cs
  exact ⟨v, w', r, stepsIn_wide.2 s⟩
/-- An operation that is no deferred call, carried out in a round, goes as anywhere. -/
theorem op_in (l n : Nat) {P : Program} {o : Oper} {a : Act} {w : World} {K : Act → World → Prop} {Q : Exit → Act → World → Prop} (hnd : ∀ c, o.op ≠ .defer c) (h : o.wp P a w K Q) : o.wpIn (Rn l) n P a w K Q := by
  refine ⟨fun _ _ => trivial, ?_⟩
  unfold Oper.wp at h
  rw [show (Rn l).round = none from rfl, Oper.semAt_none]
  generalize (execOp a.eval o).run P w = r at h
  cases r with
  | ok x w' =>
    cases x <;> simp only [Oper.upon, Oper.uponIn] at h ⊢
    case value v => exact h
    case skip => exact h
    case defer d => exact h
    case enter f args => exact ⟨(fun h => by cases h), calls_in l _ h⟩
    case row row args => exact ⟨(fun h => by cases h), rows_in l _ h⟩
  | halt x w' => cases x <;> simp only [Oper.upon, Oper.uponIn] at h ⊢; exact h

section
variable {l : Nat} {P : Program} {ops : Array Oper} {Q : Exit → Act → World → Prop} {S : World → Prop} {d : Nat}
def noDefer (ops : Array Oper) : Bool := ops.toList.all fun o => match o.op with | .defer _ => false | _ => true
theorem noDefer_spec (h : noDefer ops = true) (j : Nat) (o : Oper) (ho : ops[j]? = some o) : ∀ c, o.op ≠ .defer c := by
  intro c e
  have hm : o ∈ ops.toList := by
    have := Array.mem_of_getElem? ho
    simpa using this
  have := List.all_eq_true.1 h o hm
  rw [e] at this
  simp at this

/-- Number d waits for number i. -/
def waitsOn (ops : Array Oper) (d i : Nat) : Bool := match ops[d]? with
  | some o => o.after.toList.any (fun e => Region.binds .any e && e.on == i)
  | none => true
/-- S is to hold behind each operation but number d. -/
def wpAnyR (l : Nat) (P : Program) (ops : Array Oper) (Q : Exit → Act → World → Prop) (S : World → Prop) (d : Nat) : Nat → Array Bool → Act → World → Prop
  | 0, listed, a, w => Region.ready .any ops listed = [] ∧ Q .normal a w
  | fuel + 1, listed, a, w => (Region.ready .any ops listed = [] → Q .normal a w) ∧
    ∀ i ∈ Region.ready .any ops listed, wpOpIn (Rn l) 0 P ops Q i (fun a' w' => (i = d ∨ S w') ∧ wpAnyR l P ops Q S d fuel (listed.setIfInBounds i true) a' w') a w
theorem wpAnyIn_of_R : ∀ (fuel : Nat) (listed : Array Bool) (a : Act) (w : World), wpAnyR l P ops Q S d fuel listed a w → wpAnyIn (Rn l) 0 P .any ops Q fuel listed a w
  | 0, _, _, _, h => h
  | fuel + 1, _, _, _, h => ⟨h.1, fun i hi => wpOpIn_mono (fun a' w' h' => wpAnyIn_of_R fuel _ a' w' h'.2) (h.2 i hi)⟩
theorem YieldsIf.wpOpR {i : Nat} {o : Oper} {v : Value} {a : Act} (hnd : noDefer ops = true) (hi : ops[i]? = some o) (hy : YieldsIf P ops S o v a) {K : Act → World → Prop} {w : World} (hS : S w) (h : K (a.put o.dst v) w) : wpOpIn (Rn l) 0 P ops Q i K a w := by
  unfold Go.wpOpIn
  simp only [hi]
  rcases hy with ⟨hw, hv⟩ | ⟨hw, rfl⟩
  · simp only [hw, if_true]
    exact op_in l 0 (noDefer_spec hnd i o hi) (by simp only [Oper.wp, hv w hS, Oper.upon]; exact h)
  · simp only [hw, Bool.false_eq_true, if_false]; exact ⟨fun _ _ => trivial, h⟩
theorem wpOpR_putIf {j : Nat} {oi oj : Oper} {v : Value} (hnd : noDefer ops = true) (hj : ops[j]? = some oj) (hap : oi.apart ops oj = true)
    (hsi : ∀ cs b, oi.op ≠ .select cs b) (hsj : ∀ cs b, oj.op ≠ .select cs b)
    (hQ : ∀ c a w, Q (.panic c) (a.put oi.dst v) w → Q (.panic c) a w) {K : Act → World → Prop} {a : Act} {w : World}
    (hy : YieldsIf P ops S oi v a) (h : wpOpIn (Rn l) 0 P ops Q j K (a.put oi.dst v) w) :
    wpOpIn (Rn l) 0 P ops Q j (fun a' w' => YieldsIf P ops S oi v a' ∧ K (a'.put oi.dst v) w') a w := by
  have hnj := noDefer_spec hnd j oj hj
  obtain ⟨h1, h2, h3⟩ := Oper.apart_spec hap
  have keep : ∀ (a : Act), YieldsIf P ops S oi v a → ∀ u, YieldsIf P ops S oi v (a.put oj.dst u) := fun a hy u =>
    hy.of_same (execOp_put oi hsi a oj.dst u h3) (wanted_put oi a oj.dst u h3)
  have keepD : ∀ d, YieldsIf P ops S oi v { a with defers := d :: a.defers } := fun d => hy.of_same rfl rfl
  unfold wpOpIn at *
  simp only [hj] at *
  rw [wanted_put oj a oi.dst v h1] at h
  split
  · rename_i hw
    simp only [hw, if_true] at h
    unfold Oper.wpIn at *
    refine ⟨fun _ _ => trivial, ?_⟩
    have h := h.2
    rw [show (Rn l).round = none from rfl, Oper.semAt_none] at h ⊢
    rw [execOp_put oj hsj a oi.dst v h1] at h
    generalize (execOp a.eval oj).run P w = r at *
    cases r with
    | ok x w' =>
      cases x <;> simp only [Oper.uponIn] at h ⊢
      case value u => exact ⟨keep a hy u, by rw [← Act.put_comm a v u h2]; exact h⟩
      case skip => exact ⟨keep a hy _, by rw [← Act.put_comm a v undef h2]; exact h⟩
      case defer d =>
        refine ⟨keep _ (keepD d) _, ?_⟩
        rw [← Act.put_comm _ v undef h2, ← Act.put_defers]
        exact h
      case enter f args =>
        refine ⟨h.1, CallsIn.mono h.2 fun e w'' he => ?_⟩
        cases e with
        | returned u => exact ⟨keep a hy u, by rw [← Act.put_comm a v u h2]; exact he⟩
        | panicked c => exact hQ _ _ _ he
        | outgrown => exact he
      case row row args => exact ⟨h.1, RowsIn.mono h.2 fun u w'' he => ⟨keep a hy u, by rw [← Act.put_comm a v u h2]; exact he⟩⟩
      case round l f tmps assign body =>
        refine ⟨h.1, RoundIn.mono h.2 fun e w'' he => ?_⟩
        cases e with
        | returned u => exact ⟨keep a hy u, by rw [← Act.put_comm a v u h2]; exact he⟩
        | panicked c => exact hQ _ _ _ he
        | outgrown => exact he
    | halt x w' =>
      cases x <;> simp only [Oper.uponIn] at h ⊢
      case panic u => exact hQ _ _ _ h
  · rename_i hw
    simp only [hw] at h
    exact ⟨fun _ _ => trivial, keep a hy _, by rw [← Act.put_comm a v undef h2]; exact h.2⟩
theorem wpAnyR_first {i : Nat} {oi : Oper} {v : Value} (hnd : noDefer ops = true) (hwd : waitsOn ops d i = true) (hi : ops[i]? = some oi) (hsel : ∀ (j : Nat) (o : Oper) cs b, ops[j]? = some o → o.op ≠ .select cs b)
    (hQ : ∀ c a w, Q (.panic c) (a.put oi.dst v) w → Q (.panic c) a w) :
    ∀ (fuel : Nat) (listed : Array Bool) (a : Act) (w : World),
      (∀ j oj, ops[j]? = some oj → j ≠ i → listed.getD j true = false → (∀ e ∈ oj.after, Region.binds .any e = true → e.on ≠ i) → oi.apart ops oj = true) →
      i ∈ Region.ready .any ops listed → YieldsIf P ops S oi v a → S w →
      wpAnyR l P ops Q S d fuel (listed.setIfInBounds i true) (a.put oi.dst v) w → wpAnyR l P ops Q S d (fuel + 1) listed a w := by
  intro fuel
  induction fuel with
  | zero =>
    intro listed a w _ hr hy hS H
    refine ⟨fun h => (by rw [h] at hr; cases hr), fun j hj => ?_⟩
    by_cases hji : j = i
    · subst hji; exact YieldsIf.wpOpR hnd hi hy hS ⟨.inr hS, H⟩
    · have := ready_mono hj hji
      rw [H.1] at this
      cases this
  | succ fuel ih =>
    intro listed a w hfree hr hy hS H
    refine ⟨fun h => (by rw [h] at hr; cases hr), fun j hj => ?_⟩
    by_cases hji : j = i
    · subst hji; exact YieldsIf.wpOpR hnd hi hy hS ⟨.inr hS, H⟩
    · have h1 := H.2 j (ready_mono hj hji)
      obtain ⟨hjun, oj, hoj, hall⟩ := mem_ready.1 hj
      have hnot : ∀ e ∈ oj.after, Region.binds .any e = true → e.on ≠ i := fun e he hb heq => by
        have h1 := hall e he hb
        have h0 := (mem_ready.1 hr).1
        rw [heq] at h1
        rcases Nat.lt_or_ge i listed.size with h' | h'
        · simp [h'] at h0 h1; rw [h0] at h1; cases h1
        · simp [Array.getElem?_eq_none h'] at h1
      have h2 := wpOpR_putIf hnd hoj (hfree j oj hoj hji hjun hnot) (fun cs b => hsel i oi cs b hi) (fun cs b => hsel j oj cs b hoj) hQ hy h1
      have hfree' : ∀ k ok, ops[k]? = some ok → k ≠ i → (listed.setIfInBounds j true).getD k true = false →
          (∀ e ∈ ok.after, Region.binds .any e = true → e.on ≠ i) → oi.apart ops ok = true := fun k ok hk hki hun hno => by
        refine hfree k ok hk hki ?_ hno
        by_cases hjk : j = k
        · subst hjk; exact hjun
        · rw [getD_set_ne true hjk] at hun; exact hun
      have hjd : j ≠ d := by
        rintro rfl
        unfold waitsOn at hwd
        rw [hoj] at hwd
        obtain ⟨q, hq, hqb⟩ := List.any_eq_true.1 hwd
        rw [Array.mem_toList_iff] at hq
        rw [Bool.and_eq_true] at hqb
        exact hnot q hq hqb.1 (by simpa using hqb.2)
      refine wpOpIn_mono (fun a' w' h3 => ⟨.inr (h3.2.1.resolve_left hjd), ih (listed.setIfInBounds j true) a' w' hfree' (ready_mono hr (Ne.symm hji)) h3.1 (h3.2.1.resolve_left hjd) ?_⟩) h2
      rw [Array.setIfInBounds_comm _ _ hji]
      exact h3.2.2
/-- Take number i first. -/
theorem wpAnyR_take {i : Nat} {oi : Oper} {v : Value} {fuel : Nat} {listed : Array Bool} {a : Act} {w : World} (hnd : noDefer ops = true) (hwd : waitsOn ops d i = true) (hi : ops[i]? = some oi)
    (hs : Region.noSelect ops = true) (hf : Region.free .any ops listed i = true) (hr : (Region.ready .any ops listed).contains i = true)
    (hQ : ∀ c a w, Q (.panic c) (a.put oi.dst v) w → Q (.panic c) a w) (hy : YieldsIf P ops S oi v a) (hS : S w)
    (h : wpAnyR l P ops Q S d fuel (listed.setIfInBounds i true) (a.put oi.dst v) w) : wpAnyR l P ops Q S d (fuel + 1) listed a w :=
  wpAnyR_first hnd hwd hi (Region.noSelect_spec hs) hQ fuel listed a w (Region.free_spec hi hf) (by simpa using hr) hy hS h
/-- Number i is the only one that may come up: it goes as anywhere. -/
theorem wpAnyR_one {i : Nat} {o : Oper} {fuel : Nat} {listed : Array Bool} {a : Act} {w : World} (hnd : noDefer ops = true) (hr : Region.ready .any ops listed = [i]) (ho : ops[i]? = some o)
    (h : ∀ K' : Act → World → Prop, Shut (∀ a w, (i = d ∨ S w) → wpAnyR l P ops Q S d fuel (listed.setIfInBounds i true) a w → K' a w) → if Region.wanted o (yielded ops a.tmps) = true then Oper.wp P o a w K' Q else K' (a.put o.dst undef) w) :
    wpAnyR l P ops Q S d (fuel + 1) listed a w := by
  refine ⟨fun h0 => (by rw [hr] at h0; cases h0), fun j hj => ?_⟩
  rw [hr] at hj
  obtain rfl := List.mem_singleton.1 hj
  have := h (fun a' w' => (j = d ∨ S w') ∧ wpAnyR l P ops Q S d fuel (listed.setIfInBounds j true) a' w') (fun a w hs hw => ⟨hs, hw⟩)
  unfold Go.wpOpIn
  simp only [ho]
  split
  · rename_i hw; rw [if_pos hw] at this; exact op_in l 0 (noDefer_spec hnd j o ho) this
  · rename_i hw; rw [if_neg hw] at this; exact ⟨fun _ _ => trivial, this⟩
/-- Number i is the only one that may come up, and it is a call of yield (or whatever else goes in a round alone). -/
theorem wpAnyR_oneIn {i : Nat} {o : Oper} {fuel : Nat} {listed : Array Bool} {a : Act} {w : World} (hr : Region.ready .any ops listed = [i]) (ho : ops[i]? = some o)
    (h : ∀ K' : Act → World → Prop, Shut (∀ a w, (i = d ∨ S w) → wpAnyR l P ops Q S d fuel (listed.setIfInBounds i true) a w → K' a w) → if Region.wanted o (yielded ops a.tmps) = true then Oper.wpIn (Rn l) 0 P o a w K' Q else K' (a.put o.dst undef) w) :
    wpAnyR l P ops Q S d (fuel + 1) listed a w := by
  refine ⟨fun h0 => (by rw [hr] at h0; cases h0), fun j hj => ?_⟩
  rw [hr] at hj
  obtain rfl := List.mem_singleton.1 hj
  have := h (fun a' w' => (j = d ∨ S w') ∧ wpAnyR l P ops Q S d fuel (listed.setIfInBounds j true) a' w') (fun a w hs hw => ⟨hs, hw⟩)
  unfold Go.wpOpIn
  simp only [ho]
  split
  · rename_i hw; rw [if_pos hw] at this; exact this
  · rename_i hw; rw [if_neg hw] at this; exact ⟨fun _ _ => trivial, this⟩
theorem wpAnyR_done {listed : Array Bool} {a : Act} {w : World} (hr : Region.ready .any ops listed = []) (h : Q .normal a w) : ∀ fuel, wpAnyR l P ops Q S d fuel listed a w
  | 0 => ⟨hr, h⟩
  | _ + 1 => ⟨fun _ => h, by rw [hr]; simp⟩
/-- The beginning. -/
theorem wpIn_region_R (d : Nat) {id : Nat} {a : Act} {w : World} (hm : P.follows .mixedOrders = true) (hS : S w.drew)
    (h : S w.drew → wpAnyR l P ops Q S d ops.size (Array.replicate ops.size false) a w.drew) : (Code.region id ops true).wpIn (Rn l) 0 P Q a w :=
  wpIn_region_any hm (wpAnyIn_of_R _ _ _ _ (h hS))
end
end Go.Proofs.Ytghblnldokpceaa.SeqW
/- exec.Group where the rows are counted, as a function. -/
namespace Go.Proofs.Ytghblnldokpceaa.QV
open Go.RowKit Go.Proofs.YtghblnldokpceaaW.PrintWords Go.Proofs.Ytghblnldokpceaa.SeqW Go.Shelf Go.Proofs.Ytghblnldokpceaa.Op
set_option linter.unusedVariables false
set_option linter.unusedSimpArgs false
attribute [local go_sem] Oper.semAt_some

theorem clone_ints_nil (w : World) : Calls Try.prog 37 #[.slice none 0 0] w fun e w' => e = .returned (.slice none 0 0) ∧ w' = w := by
  have hn := Lib.run_eql_slice_nil (P := Try.prog)
  go_enter Try.func37, Try.ntmps37
  go_wp2
  go_ret
  exact ⟨rfl, rfl⟩
/-! the kind of api.Agg, as the print spells kinds -/
structure S48 where
  f0 : Int
  f1 : Int
def z48 : S48 := ⟨0, 0⟩
def k48 : Kd S48 := Kd.iso (Kd.pair (Kd.int .i64) (Kd.int .i64)) (fun x : S48 => (x.f0, x.f1))
theorem k48_open {w : World} {x : S48} {cs : List Value} (h : k48.K w x cs) : cs = [.int .i64 x.f0, .int .i64 x.f1] := by
  obtain ⟨_, _, rfl, rfl, rfl⟩ := h
  exact rfl
theorem k48_mk (w : World) (x : S48)  : k48.K w x [.int .i64 x.f0, .int .i64 x.f1] := ⟨[.int .i64 x.f0], [.int .i64 x.f1], rfl, rfl, rfl⟩
theorem k48_mkM (w : World) (base : Nat) (ok : Nat → Prop) (x : S48)  : k48.M w base ok x [.int .i64 x.f0, .int .i64 x.f1] := ⟨[.int .i64 x.f0], [.int .i64 x.f1], rfl, rfl, rfl⟩
abbrev kA : Kd S48 := k48
theorem infoA : (Try.prog.info? 48).map (fun i => (i.zero, i.size, i.bytes)) = some (some (.agg #[.int .i64 0, .int .i64 0]), 2, 16) := by kernel_rfl
theorem kA_KM {w W : World} {base : Nat} {ok : Nat → Prop} (x : S48) (cs : List Value) (h : kA.K w x cs) : kA.M W base ok x cs := by
  rw [k48_open h]; exact k48_mkM _ _ _ _
set_option maxHeartbeats 1000000 in
theorem clone_aggs (ad : Addr) (l : List S48) (c : Nat) (w : World) (hr : kA.C w (some ad) l.length l) (hc : l.length ≤ c) (hb : l.length * 16 ≤ 140737488355328) :
    Calls Try.prog 38 #[.slice (some ad) l.length c] w fun e w' => ∃ v, e = .returned v ∧ kA.R 48 w' w.heap.size (fun _ => True) v l ∧ Below w.heap.size w w' := by
  have hmax := hr.2.1
  have hn := Lib.run_eql_slice_nil (P := Try.prog)
  go_enter Try.func38, Try.ntmps38
  go_wp2_with (at_builtin; refine Kd.R_append_rows kA (w0 := w) w.heap.size rfl (.tmp 5) (.tmp 6) 36 48 _ 16 rfl Try.underlying36 infoA rfl (by decide) (by decide) (.slice (some ⟨w.heap.size, 0, none⟩) 0 0) [] l (some ad) l.length c (fun _ => True) (fun _ => False) rfl rfl (R_empty' kA _ _ _ _ (Nat.le_refl _) trivial) (Kd.C_below hr (below_alloc (Below.refl _ _) _)) (fun x cs h => kA_KM x cs h) (fun _ h => h.elim) (fun _ _ => trivial) (below_alloc (Below.refl _ _) _) (by simp) (by simp; omega) ?_; intro v1 w4 hv1 hB7 hg7 hat7; clear hg7 hat7)
  go_ret
  exact ⟨v1, rfl, by simpa using hv1, hB7⟩

set_option maxHeartbeats 2000000 in
theorem group_is1 (row : Row) (sv : Value) (ga : Nat) (w : World) (hR : IsSeq w sv [row]) (hga : ga < w.heap.size) (ha : kA.C w (some ⟨ga, 0, none⟩) 1 [⟨0, 0⟩]) (hb : row.length ≤ 1048576) :
    Calls Try.prog 16 #[sv, .slice none 0 0, .slice (some ⟨ga, 0, none⟩) 1 1] w fun e w' => ∃ v, e = .returned v ∧ IsOwn w' v [one1] ∧ Below w.heap.size w w' := by
  obtain ⟨gR, lbR, RdR, rfl, qR⟩ := hR
  have hR : IsSeq w (.func (.func gR) #[] lbR) [row] := ⟨gR, lbR, RdR, rfl, qR⟩
  clear qR
  go_enter Try.func16, Try.ntmps16
  go_wp2_with fail
  obtain ⟨w1, hw1⟩ : ∃ w1, ((w.alloc (.cells #[.func (.func gR) #[] lbR] 28)).alloc (.cells #[.slice none 0 0] 35)).alloc (.cells #[.slice (some ⟨ga, 0, none⟩) 1 1] 36) = w1 := ⟨_, rfl⟩
  rw [hw1]
  have hb1 : Below w.heap.size w w1 := by rw [← hw1]; exact below_alloc (below_alloc (below_alloc (Below.refl _ _) _) _) _
  have g0 : w1.heap[w.heap.size]? = some (.cells #[.func (.func gR) #[] lbR] 28 (0, 0)) := by rw [← hw1]; exact blk_alloc (blk_alloc (blk_new _ _) _) _
  have g1 : w1.heap[w.heap.size + 1]? = some (.cells #[.slice none 0 0] 35 (0, 0)) := by
    have := blk_new (w.alloc (.cells #[.func (.func gR) #[] lbR] 28)) (.cells #[.slice none 0 0] 35)
    rw [World.size_alloc] at this
    rw [← hw1]; exact blk_alloc this _
  have g2 : w1.heap[w.heap.size + 1 + 1]? = some (.cells #[.slice (some ⟨ga, 0, none⟩) 1 1] 36 (0, 0)) := by
    have := blk_new ((w.alloc (.cells #[.func (.func gR) #[] lbR] 28)).alloc (.cells #[.slice none 0 0] 35)) (.cells #[.slice (some ⟨ga, 0, none⟩) 1 1] 36)
    rw [World.size_alloc, World.size_alloc] at this
    rw [← hw1]; exact this
  clear hw1
  have hz1 := blk_lt g2
  have S0 : ∀ V, Below w1.heap.size w1 V → V.cell? ⟨w.heap.size + 1, 0, none⟩ = some (.slice none 0 0) ∧ V.cell? ⟨w.heap.size + 1 + 1, 0, none⟩ = some (.slice (some ⟨ga, 0, none⟩) 1 1) ∧ V.frozen? ⟨w.heap.size + 1, 0, none⟩ = false ∧ V.frozen? ⟨w.heap.size + 1 + 1, 0, none⟩ = false :=
    fun V hV => ⟨blk_cell (blk_below g1 hV) 0, blk_cell (blk_below g2 hV) 0, blk_frozen (blk_below g1 hV) 0, blk_frozen (blk_below g2 hV) 0⟩
  refine (wpIn_wide (n := 0)).1 ?_
  refine wpIn_region_R (l := 0) 5 (S := fun V => V.cell? ⟨w.heap.size + 1, 0, none⟩ = some (.slice none 0 0) ∧ V.cell? ⟨w.heap.size + 1 + 1, 0, none⟩ = some (.slice (some ⟨ga, 0, none⟩) 1 1) ∧ V.frozen? ⟨w.heap.size + 1, 0, none⟩ = false ∧ V.frozen? ⟨w.heap.size + 1 + 1, 0, none⟩ = false) (by kernel_rfl) (S0 _ (below_drew (Below.refl _ _))) (fun hS0 => ?_)
  refine wpAnyR_take (i := 0) (oi := ⟨some 7, _, _, _, _, _⟩) (v := ?_) (by kernel_rfl) (by kernel_rfl) rfl (by kernel_rfl) (by kernel_rfl) (by kernel_rfl) (fun _ _ _ h => h) (Or.inl ⟨by rfl, ?_⟩) (by assumption) ?_
  rotate_left
  · intro w hSw; (try dsimp only at hSw); (try go_split_ands); go_simp; (try (with_reducible rfl))
  (try simp only [Act.put, List.setIfInBounds_toArray, List.set_cons_zero, List.set_cons_succ])
  refine wpAnyR_take (i := 2) (oi := ⟨some 9, _, _, _, _, _⟩) (v := ?_) (by kernel_rfl) (by kernel_rfl) rfl (by kernel_rfl) (by kernel_rfl) (by kernel_rfl) (fun _ _ _ h => h) (Or.inl ⟨by rfl, ?_⟩) (by assumption) ?_
  rotate_left
  · intro w hSw; (try dsimp only at hSw); (try go_split_ands); go_simp; (try (with_reducible rfl))
  (try simp only [Act.put, List.setIfInBounds_toArray, List.set_cons_zero, List.set_cons_succ])
  refine wpAnyR_one (i := 1) (o := ⟨some 8, _, _, _, _, _⟩) (by kernel_rfl) (by kernel_rfl) rfl (fun K hK => ?_)
  go_simp
  refine (clone_ints_nil _).mono ?_
  rintro e w2 ⟨rfl, rfl⟩
  (try dsimp only)
  refine hK.out _ _ (.inr (S0 _ (below_drew (Below.refl _ _)))) ?_
  clear hK K
  (try simp only [Act.put, List.setIfInBounds_toArray, List.set_cons_zero, List.set_cons_succ])
  refine wpAnyR_one (i := 3) (o := ⟨some 10, _, _, _, _, _⟩) (by kernel_rfl) (by kernel_rfl) rfl (fun K hK => ?_)
  go_simp
  refine (clone_aggs ⟨ga, 0, none⟩ [⟨0, 0⟩] 1 _ (Kd.C_drew (Kd.C_below ha hb1)) (by simp) (by simp)).mono ?_
  rintro e w2 ⟨v2, rfl, hR2, hb2⟩
  have hb2' : Below w1.heap.size w1 w2 := (below_drew (Below.refl _ w1)).trans hb2
  (try dsimp only)
  refine hK.out _ _ (.inr (S0 _ hb2')) ?_
  clear hK K
  (try simp only [Act.put, List.setIfInBounds_toArray, List.set_cons_zero, List.set_cons_succ])
  obtain ⟨A3, c3', hv3, hle3, hC3⟩ := Kd.R_reads hR2
  obtain ⟨g3, c3, rfl, hg3b, hg3l, cells3, hcells3⟩ := Kd.R_form hR2 (by simp)
  have hg3b' : w1.heap.size ≤ g3 := hg3b
  injection hv3 with hA3
  subst hA3
  obtain ⟨ad3, cs3, hA3, _, hK3, hcs3⟩ := Kd.C_get hC3 ⟨0, 0⟩ 0 (by omega) (by simp)
  injection hA3 with hA3
  subst hA3
  have hop := k48_open hK3
  have e30 : w2.cell? ⟨g3, 0, none⟩ = some (.int .i64 0) := hcs3 0 _ (by rw [hop]; rfl)
  have e31 : w2.cell? ⟨g3, 1, none⟩ = some (.int .i64 0) := hcs3 1 _ (by rw [hop]; rfl)
  have hS2 := S0 _ hb2'
  obtain ⟨q1, q2, q3, q4⟩ := hS2
  refine wpAnyR_one (i := 4) (o := ⟨none, _, _, _, _, _⟩) (by kernel_rfl) (by kernel_rfl) rfl (fun K hK => ?_)
  go_simp
  obtain ⟨w3, hw3⟩ : ∃ w3, w2.setCell ⟨w.heap.size + 1, 0, none⟩ (.slice none 0 0) = w3 := ⟨_, rfl⟩
  rw [hw3]
  have hk3 : Seq.Kpt (fun i => i = w.heap.size + 1) w2 w3 := by rw [← hw3]; exact Seq.Kpt.setCell w2 ⟨w.heap.size + 1, 0, none⟩ _
  have g13 : w3.heap[w.heap.size + 1]? = some (.cells #[.slice none 0 0] 35 (0, 0)) := by rw [← hw3]; simpa using blk_set (blk_below g1 hb2') 0 (.slice none 0 0)
  have g23 : w3.heap[w.heap.size + 1 + 1]? = some (.cells #[.slice (some ⟨ga, 0, none⟩) 1 1] 36 (0, 0)) := hk3.at (blk_below g2 hb2') (by omega)
  clear hw3
  refine hK.out _ _ (.inr ⟨blk_cell g13 0, blk_cell g23 0, blk_frozen g13 0, blk_frozen g23 0⟩) ?_
  clear hK K
  (try simp only [Act.put, List.setIfInBounds_toArray, List.set_cons_zero, List.set_cons_succ])
  have t1 := blk_cell g23 0
  have t2 := blk_frozen g23 0
  refine wpAnyR_one (i := 5) (o := ⟨none, _, _, _, _, _⟩) (by kernel_rfl) (by kernel_rfl) rfl (fun K hK => ?_)
  go_simp
  refine hK.out _ _ (.inl rfl) ?_
  clear hK K
  (try simp only [Act.put, List.setIfInBounds_toArray, List.set_cons_zero, List.set_cons_succ])
  refine wpAnyR_done (by kernel_rfl) ?_ _
  go_wp2
  go_ret
  obtain ⟨w4, hw4⟩ : ∃ w4, w3.setCell ⟨w.heap.size + 1 + 1, 0, none⟩ (.slice (some ⟨g3, 0, none⟩) 1 c3') = w4 := ⟨_, rfl⟩
  rw [hw4]
  have hk4 : Seq.Kpt (fun i => i = w.heap.size + 1 + 1) w3 w4 := by rw [← hw4]; exact Seq.Kpt.setCell w3 ⟨w.heap.size + 1 + 1, 0, none⟩ _
  have g24 : w4.heap[w.heap.size + 1 + 1]? = some (.cells #[.slice (some ⟨g3, 0, none⟩) 1 c3'] 36 (0, 0)) := by rw [← hw4]; simpa using blk_set g23 0 (.slice (some ⟨g3, 0, none⟩) 1 c3')
  have g14 := hk4.at g13 (by omega)
  have g04 := hk4.at (hk3.at (blk_below g0 hb2') (by omega)) (by omega)
  have hg3 := hk4.at (hk3.at hcells3 (by omega)) (by omega)
  have hB4 : Below w.heap.size w w4 := (hb1.trans (hb2'.mono hb1.size)).trans ((hk3.trans hk4 (M := fun i => i = w.heap.size + 1 ∨ i = w.heap.size + 1 + 1) (fun _ _ h => h)).below (by have := hb2'.size; omega) (fun i _ h => by omega))
  refine ⟨_, rfl, ⟨_, _, rfl, fun args w => rfl, group_seq1 row _ _ _ _ g3 c3' w4 (hR.later hB4) (blk_cell g14 0) (blk_cell g04 0) (blk_cell g24 0) ?_ ?_ hb⟩, hB4⟩
  · rw [blk_cell hg3 0, ← blk_cell hcells3 0]; exact e30
  · rw [blk_cell hg3 1, ← blk_cell hcells3 1]; exact e31
end Go.Proofs.Ytghblnldokpceaa.QV
/- How aggregates and whole numbers are opened into the print's kinds. -/
namespace Go.Proofs.Ytghblnldokpceaa.QV
open Go.RowKit Go.Proofs.YtghblnldokpceaaW.PrintWords Go.Proofs.Ytghblnldokpceaa.Op
set_option linter.unusedVariables false
theorem oAg : Opens Try.prog 48 k48 (fun _ => True) (fun x => 1) :=
  opens_mono (fun _ _ => trivial) (fun x => by omega)
    (opens_iso (b := fun x => ⟨x.1, x.2⟩) (fun _ => rfl) (opens_struct Try.underlying48 (by kernel_rfl)
      (opensF_cons rfl (by kernel_rfl) rfl (opens_int Try.underlying3) (opensF_last rfl (by kernel_rfl) (opens_int Try.underlying3)))))
theorem oAggs : Opens Try.prog 36 (Kd.slice 48 k48) (fun xs => xs.length ≤ 9223372036854775807 ∧ xs.length * 16 ≤ 140737488351232) (fun xs => xs.length + 1) :=
  opens_mono (fun _ h => h.2) (fun xs => by have := len_le_sum (m := fun x : S48 => 1) (fun _ => by omega) xs; omega) (opens_slice Try.underlying36 (by kernel_rfl) (by kernel_rfl) oAg)
theorem oInts4 : Opens Try.prog 35 (Kd.slice 3 (Kd.int .i64)) (fun xs => xs.length ≤ 9223372036854775807 ∧ xs.length * 8 ≤ 140737488351232) (fun xs => xs.length + 1) :=
  opens_mono (fun _ h => h.2) (fun xs => by have := len_le_sum (m := fun _ : Int => 1) (fun _ => by omega) xs; omega) (opens_slice Try.underlying35 (by kernel_rfl) (by kernel_rfl) (opens_int Try.underlying3))
end Go.Proofs.Ytghblnldokpceaa.QV
/- slices.Insert of one group among groups (two cells each). -/
namespace Go.Proofs.Ytghblnldokpceaa.QV
open Go.RowKit Go.Proofs.YtghblnldokpceaaW.PrintWords Go.Proofs.Ytghblnldokpceaa.SeqW Go.Shelf Go.Proofs.Ytghblnldokpceaa.Op
set_option linter.unusedVariables false
set_option linter.unusedSimpArgs false
abbrev tG : Nat := 65
abbrev Raw := Value × Value

/-- The cells of elements of two cells. -/
def fl : List Raw → List Value
  | [] => []
  | x :: l => x.1 :: x.2 :: fl l
theorem fl_append : ∀ a b : List Raw, fl (a ++ b) = fl a ++ fl b
  | [], _ => rfl
  | x :: a, b => by simp [fl, fl_append a b]
theorem fl_length : ∀ a : List Raw, (fl a).length = a.length * 2
  | [] => rfl
  | x :: a => by simp [fl, fl_length a]; omega
theorem fl_take : ∀ (a : List Raw) (i : Nat), (fl a).take (i * 2) = fl (a.take i)
  | [], i => by simp [fl]
  | x :: a, 0 => by simp [fl]
  | x :: a, i + 1 => by rw [Nat.succ_mul]; simp [fl, fl_take a i]
theorem fl_drop : ∀ (a : List Raw) (i : Nat), (fl a).drop (i * 2) = fl (a.drop i)
  | [], i => by simp [fl]
  | x :: a, 0 => by simp [fl]
  | x :: a, i + 1 => by rw [Nat.succ_mul]; simp [fl, fl_drop a i]
theorem fl_at0 : ∀ (a : List Raw) (i : Nat), (fl a)[i * 2]? = (a[i]?).map (·.1)
  | [], i => by simp [fl]
  | x :: a, 0 => by simp [fl]
  | x :: a, i + 1 => by rw [Nat.succ_mul]; simp [fl, fl_at0 a i]
theorem fl_at1 : ∀ (a : List Raw) (i : Nat), (fl a)[i * 2 + 1]? = (a[i]?).map (·.2)
  | [], i => by simp [fl]
  | x :: a, 0 => by simp [fl]
  | x :: a, i + 1 => by rw [Nat.succ_mul]; simp [fl, fl_at1 a i]
theorem fl_mem {v : Value} : ∀ {a : List Raw}, v ∈ fl a → ∃ x ∈ a, v = x.1 ∨ v = x.2
  | [], h => by simp [fl] at h
  | x :: a, h => by
    simp only [fl, List.mem_cons] at h
    rcases h with rfl | rfl | h
    · exact ⟨x, by simp, .inl rfl⟩
    · exact ⟨x, by simp, .inr rfl⟩
    · obtain ⟨y, hy, h⟩ := fl_mem h
      exact ⟨y, by simp [hy], h⟩
def One (x : Raw) : Prop := x.1.oneCell' = true ∧ x.2.oneCell' = true
theorem fl_one {a : List Raw} (h : ∀ x ∈ a, One x) : ∀ v ∈ fl a, v.oneCell' = true := by
  intro v hv
  obtain ⟨x, hx, rfl | rfl⟩ := fl_mem hv
  · exact (h x hx).1
  · exact (h x hx).2
/-- A row of groups of one's own: what stands in its cells. -/
def GA (W : World) (base : Nat) (v : Value) (a : List Raw) : Prop := W.ownsRow base tG 2 v a.length (fl a) ∧ ∀ x ∈ a, One x
theorem reps_fl {M : Raw → List Value → Prop} : ∀ {a : List Raw}, (∀ x ∈ a, M x [x.1, x.2]) → Reps M 2 a (fl a) := by
  intro a h
  refine ⟨fl_length a, fun j p hj => ?_⟩
  have hp := h p (List.mem_of_getElem? hj)
  have h0 := fl_at0 a j
  have h1 := fl_at1 a j
  rw [hj] at h0 h1
  have : ((fl a).drop (j * 2)).take 2 = [p.1, p.2] := by
    rw [show (2 : Nat) = 1 + 1 from rfl, List.take_add_one, List.take_add_one]
    simp [List.getElem?_drop, h0, h1]
  rw [this]
  exact hp
theorem fl_of_reps {M : Raw → List Value → Prop} (hM : ∀ x c, M x c → c = [x.1, x.2]) {a : List Raw} {c : List Value} (h : Reps M 2 a c) : c = fl a := by
  refine List.ext_getElem? fun k => ?_
  have hl := h.1
  by_cases hk : k < a.length * 2
  · have hkl : k / 2 < a.length := by omega
    have hx := hM _ _ (h.2 (k / 2) _ (List.getElem?_eq_getElem hkl))
    have e0 : c[k / 2 * 2]? = some (a[k / 2]).1 := by
      have := congrArg (fun l : List Value => l[0]?) hx
      simpa [List.getElem?_take, List.getElem?_drop] using this
    have e1 : c[k / 2 * 2 + 1]? = some (a[k / 2]).2 := by
      have := congrArg (fun l : List Value => l[1]?) hx
      simpa [List.getElem?_take, List.getElem?_drop] using this
    have h0 := fl_at0 a (k / 2)
    have h1 := fl_at1 a (k / 2)
    rw [List.getElem?_eq_getElem hkl] at h0 h1
    rcases Nat.mod_two_eq_zero_or_one k with hm | hm
    · have : k = k / 2 * 2 := by omega
      rw [this, h0, e0]; rfl
    · have : k = k / 2 * 2 + 1 := by omega
      rw [this, h1, e1]; rfl
  · rw [List.getElem?_eq_none (by omega), List.getElem?_eq_none (by rw [fl_length]; omega)]
theorem GA.R {W : World} {base : Nat} {v : Value} {a : List Raw} (h : GA W base v a) : Kd.R kRaw tG W base (fun k => some k = v.ownBlock ∨ W.heap.size ≤ k) v a :=
  ⟨fun k hk => .inl hk.symm, fl a, h.1, reps_fl fun x hx => ⟨rfl, h.2 x hx⟩⟩
theorem GA.of_R {W : World} {base : Nat} {ok : Nat → Prop} {v : Value} {a : List Raw} (h : Kd.R kRaw tG W base ok v a) (h1 : ∀ x ∈ a, One x) : GA W base v a := by
  obtain ⟨_, inner, hown, hr⟩ := h
  obtain rfl := fl_of_reps (fun x c h => h.1) hr
  exact ⟨hown, h1⟩

theorem run_copy_two {P : Program} (w : World) (dT sT ty elem : TypeId) (g o dLen dCap : Nat) (a : Addr) (sLen sCap : Nat) (cur : Array Value) (t : TypeId) (cs : List Value) (m : Nat)
    (hu : P.underlying dT = some (.slice elem)) (hs : (P.info? elem).map (·.size) = some 2)
    (hg : w.heap[g]? = some (.cells cur t (0, 0))) (hm : Nat.min sLen dLen = m) (hn : cs.length = m * 2)
    (hsrc : ∀ j v, cs[j]? = some v → w.cell? (a.add j) = some v) (hfit : o + cs.length ≤ cur.size) (h1 : ∀ v ∈ cs, v.oneCell' = true) :
    (Builtin.copy_ #[dT, sT] ty #[.slice (some ⟨g, o, none⟩) dLen dCap, .slice (some a) sLen sCap]).run P w =
      .ok (goInt m) (w.setRow g (cur.toList.take o ++ cs ++ cur.toList.drop (o + cs.length)).toArray) := by
  have hl := run_loadCells_list (P := P) w a cs hsrc
  have hst := run_storeCells_at P g o t cs 0 cur w hg (by simpa using hfit) h1
  cases hq : P.info? elem with
  | none => simp [hq] at hs
  | some i =>
    have hi : i.size = 2 := by simpa [hq] using hs
    simp [Builtin.copy_, run_underlying hu, Builtin.lenOf, Builtin.firstCells, sizeOf, typeInfo, hq, hi, hm, ← hn, hl, hst]
theorem wpList_copy_two {P : Program} (w : World) {ops : Array Oper} {rest : List Oper} {o : Oper} {a : Act} {Q : Exit → Act → World → Prop} (hgd : o.guard = none) (d s : Operand) (t t' : TypeId)
    (ho : o.op = .call { callee := .builtin .copy, args := #[d, s], argTypes := #[t, t'] }) (v u : Value) (hd : a.eval d = v) (hs : a.eval s = u) {v' : Value} {w' : World}
    (hr : (Builtin.copy_ #[t, t'] o.type #[v, u]).run P w = .ok v' w') (h : wpList P ops Q rest (a.put o.dst v') w') : wpList P ops Q (o :: rest) a w :=
  wpList_plain hgd fun _ hK => by
    unfold Oper.wp execOp
    simp only [ho, resolve, invoke, builtin, Sem.run_bind, Sem.run_pure, Result.andThen_ok, List.map_toArray, List.map_cons, List.map_nil, hd, hs, hr]
    exact hK _ _ h
theorem step_copy_two {P : Program} {ops : Array Oper} {o : Oper} {a : Act} {w : World} {K : Act → World → Prop} {Q : Exit → Act → World → Prop} {E : Prop}
    (hg : o.guard = none) (d x : Operand) (dT sT : TypeId) (hop : o.op = Op.call { callee := Callee.builtin Builtin.copy, args := #[d, x], argTypes := #[dT, sT] })
    (v u : Value) (hd : a.eval d = v) (hx : a.eval x = u) {v' : Value} {w' : World} (hr : (Builtin.copy_ #[dT, sT] o.type #[v, u]).run P w = .ok v' w') (hK : K (a.put o.dst v') w') :
    if Region.wanted o (yielded ops a.tmps) = true then Oper.wp P o a w K Q else E := by
  have hw : Region.wanted o (yielded ops a.tmps) = true := by simp [Region.wanted, hg]
  rw [if_pos hw]
  unfold Oper.wp
  simp [execOp, hop, resolve, invoke, builtin, hd, hx, hr, Result.andThen]
  exact hK

theorem infoG2 : (Try.prog.info? tG).map (·.size) = some 2 := by kernel_rfl
theorem sizeG (w : World) : (sizeOf tG).run Try.prog w = .ok 2 w := by
  obtain ⟨i, hi, h2⟩ := Option.map_eq_some_iff.1 infoG2
  simp [sizeOf, typeInfo, hi, h2]
/-- At the end. -/
theorem insert_end (base : Nat) (v : Value) (l : List Raw) (r : Raw) (vb : Nat) (W : World) (hG : GA W base v l) (hvb : W.heap[vb]? = some (.cells #[r.1, r.2] tG (0, 0))) (hr : One r) (hne : some vb ≠ v.ownBlock)
    (hb : base ≤ W.heap.size) (hbig : l.length ≤ 1048576) :
    Calls Try.prog 44 #[v, .int .i64 l.length, .slice (some ⟨vb, 0, none⟩) 1 1] W fun e W' => ∃ v', e = .returned v' ∧ GA W' base v' (l ++ [r]) ∧ W.grownBy W' v.ownBlock ∧ (v'.ownBlock = v.ownBlock ∨ ∃ b, v'.ownBlock = some b ∧ W.heap.size ≤ b) := by
  obtain ⟨A, c, rfl⟩ := own_slice hG.1
  have hlc := own_le hG.1
  have hR := hG.R
  have hone : ∀ x ∈ l ++ [r], One x := fun x hx => by
    rcases List.mem_append.1 hx with h | h
    · exact hG.2 x h
    · rw [List.mem_singleton.1 h]; exact hr
  have hC : ReadsRow (fun (x : Raw) cs => cs = [x.1, x.2] ∧ One x) kRaw.sz W (some ⟨vb, 0, none⟩) 1 [r] := ⟨rfl, by omega, fun _ => ⟨_, rfl, fun j p hj => by
    have hj0 : j = 0 := by have := (List.getElem?_eq_some_iff.1 hj).1; simpa using this
    subst hj0
    have hp : r = p := by simpa using hj
    subst hp
    exact ⟨[r.1, r.2], rfl, ⟨rfl, hr⟩, fun k u hu => by
      rw [Nat.zero_mul, Nat.zero_add, add_plain, blk_cell hvb]
      simpa using hu⟩⟩⟩
  go_enter Try.func44, Try.ntmps44
  cases A with
  | none =>
    go_wp2_with (at_builtin; refine Kd.R_append_rows kRaw (w0 := W) base rfl (.tmp 23) (.tmp 24) 63 tG _ 48 rfl Try.underlying63 infoG rfl (by decide) (by decide) (.slice none l.length c) l [r] (some ⟨vb, 0, none⟩) 1 1 _ (fun _ => False) rfl rfl hR hC (fun x cs h => ⟨h.1, h.2⟩) (fun _ h => h.elim) (fun k hk => .inr hk) ((Below.refl W.heap.size W).mono hb) hb (by omega) ?_; intro v1 w4 hv1 hB7 hg7 hat7)
    go_ret
    exact ⟨v1, rfl, GA.of_R hv1 hone, hg7, hat7⟩
  | some ad =>
    go_wp2_with (at_builtin; refine Kd.R_append_rows kRaw (w0 := W) base rfl (.tmp 23) (.tmp 24) 63 tG _ 48 rfl Try.underlying63 infoG rfl (by decide) (by decide) (.slice (some ad) l.length c) l [r] (some ⟨vb, 0, none⟩) 1 1 _ (fun _ => False) rfl rfl hR hC (fun x cs h => ⟨h.1, h.2⟩) (fun _ h => h.elim) (fun k hk => .inr hk) ((Below.refl W.heap.size W).mono hb) hb (by omega) ?_; intro v1 w4 hv1 hB7 hg7 hat7)
    all_goals (go_ret; exact ⟨v1, rfl, GA.of_R hv1 hone, hg7, hat7⟩)
theorem grownBy_rows {W : World} {g : Nat} {c : Array Value} : ∀ {V : World}, W.grownBy V (some g) → W.grownBy (V.setRow g c) (some g) := by
  intro V h
  refine ⟨h.os, h.tape, h.output, by simpa [World.setRow] using h.size, fun i hi hne => ?_⟩
  have hig : i ≠ g := fun e => hne (by rw [e])
  rw [← h.block i hi hne]
  simp [World.setRow, Array.getElem?_modify, Ne.symm hig]
theorem below_rows {B : Nat} {w V : World} {g : Nat} {c : Array Value} (h : Below B w V) (hg : B ≤ g) : Below B w (V.setRow g c) := by
  refine ⟨h.os, h.tape, h.output, by simpa [World.setRow] using h.size, fun i hi => ?_⟩
  have hig : i ≠ g := by omega
  rw [← h.block i hi]
  simp [World.setRow, Array.getElem?_modify, Ne.symm hig]
set_option maxHeartbeats 4000000 in
set_option maxRecDepth 100000 in
/-- Into the midst, where there is room. -/
theorem insert_shift (base : Nat) (g cap : Nat) (l : List Raw) (i : Nat) (r : Raw) (vb : Nat) (W : World) (hG : GA W base (.slice (some ⟨g, 0, none⟩) l.length cap) l) (hvb : W.heap[vb]? = some (.cells #[r.1, r.2] tG (0, 0))) (hr : One r) (hne : vb ≠ g)
    (hb : base ≤ W.heap.size) (hbig : l.length ≤ 1048576) (hi : i < l.length) (hroom : l.length + 1 ≤ cap) :
    Calls Try.prog 44 #[.slice (some ⟨g, 0, none⟩) l.length cap, .int .i64 i, .slice (some ⟨vb, 0, none⟩) 1 1] W fun e W' => ∃ v', e = .returned v' ∧ GA W' base v' (l.take i ++ r :: l.drop i) ∧ W.grownBy W' (some g) ∧ v'.ownBlock = some g := by
  obtain ⟨⟨hl0, hown⟩, hone⟩ := hG
  obtain ⟨g', cap', cur, hv, hgb, hg, hnc, hcm, hcs, hct⟩ : ∃ g' cap' cur, Value.slice (some ⟨g, 0, none⟩) l.length cap = .slice (some ⟨g', 0, none⟩) l.length cap' ∧ base ≤ g' ∧ W.heap[g']? = some (.cells cur tG (0, 0)) ∧ l.length ≤ cap' ∧ cap' ≤ maxLen ∧ cur.size = cap' * 2 ∧ cur.toList.take (l.length * 2) = fl l := by
    rcases hown with h | h
    · have := h.2; omega
    · exact h
  obtain ⟨rfl, rfl⟩ : g = g' ∧ cap = cap' := by simpa using hv
  clear hv hown
  have hcl : cur.toList.length = cap * 2 := by simpa using hcs
  have hdl : (fl (l.drop i)).length = (l.length - i) * 2 := by rw [fl_length, List.length_drop]
  have hcell : ∀ j v, (fl l)[j]? = some v → W.cell? ⟨g, j, none⟩ = some v := fun j v hj => by
    rw [blk_cell hg, ← Array.getElem?_toList]
    rw [← hct] at hj
    rw [List.getElem?_take] at hj
    split at hj
    · exact hj
    · cases hj
  obtain ⟨cur1, hcur1⟩ : ∃ cur1, (cur.toList.take ((i + 1) * 2) ++ fl (l.drop i) ++ cur.toList.drop ((i + 1) * 2 + (fl (l.drop i)).length)).toArray = cur1 := ⟨_, rfl⟩
  have hc1l : cur1.toList.length = cap * 2 := by
    rw [← hcur1]
    simp only [List.toList_toArray, List.length_append, List.length_take, List.length_drop, hdl, hcl]
    omega
  have hc1s : cur1.size = cap * 2 := by simpa using hc1l
  have e1 : cur1.toList.take (i * 2) = fl (l.take i) := by
    rw [← hcur1, List.toList_toArray, List.append_assoc, List.take_append_of_le_length (by rw [List.length_take, hcl]; omega), List.take_take, Nat.min_eq_left (by omega), ← fl_take, ← hct, List.take_take, Nat.min_eq_left (by omega)]
  have e2 : cur1.toList.drop (i * 2 + 2) = fl (l.drop i) ++ cur.toList.drop ((i + 1) * 2 + (fl (l.drop i)).length) := by
    rw [← hcur1, List.toList_toArray, List.append_assoc, List.drop_append_of_le_length (by rw [List.length_take, hcl]; omega), List.drop_of_length_le (by rw [List.length_take, hcl]; omega), List.nil_append]
  obtain ⟨W1, hW1⟩ : ∃ W1, W.drew.setRow g cur1 = W1 := ⟨_, rfl⟩
  have hg1 : W1.heap[g]? = some (.cells cur1 tG (0, 0)) := by rw [← hW1]; exact setRow_heap W.drew g cur cur1 tG (0, 0) hg
  have hvb1 : W1.heap[vb]? = some (.cells #[r.1, r.2] tG (0, 0)) := by
    rw [← hW1]
    simp [World.setRow, Array.getElem?_modify, Ne.symm hne]
    exact hvb
  obtain ⟨cur2, hcur2⟩ : ∃ cur2, (cur1.toList.take (i * 2) ++ [r.1, r.2] ++ cur1.toList.drop (i * 2 + [r.1, r.2].length)).toArray = cur2 := ⟨_, rfl⟩
  have hfin : cur2.toList.take ((l.length + 1) * 2) = fl (l.take i ++ r :: l.drop i) := by
    have e3 : cur2.toList = fl (l.take i ++ r :: l.drop i) ++ cur.toList.drop ((i + 1) * 2 + (fl (l.drop i)).length) := by
      rw [← hcur2, List.toList_toArray, e1, show i * 2 + [r.1, r.2].length = i * 2 + 2 from rfl, e2, fl_append]
      simp [fl]
    have e4 : (fl (l.take i ++ r :: l.drop i)).length = (l.length + 1) * 2 := by
      rw [fl_length]
      simp only [List.length_append, List.length_take, List.length_cons, List.length_drop]
      omega
    rw [e3, ← e4, List.take_left]
  have hc2l : cur2.size = cap * 2 := by
    rw [← hcur2]
    simp only [List.size_toArray, List.length_append, List.length_take, List.length_drop, hc1l, List.length_cons, List.length_nil]
    omega
  have hcp1 : ∀ ty dc sc, (Builtin.copy_ #[63, 63] ty #[.slice (some ⟨g, (i + 1) * 2, none⟩) (l.length + 1 - (i + 1)) dc, .slice (some ⟨g, i * 2, none⟩) (l.length + 1 - i) sc]).run Try.prog W.drew = .ok (goInt ((l.length - i : Nat) : Int)) W1 := fun ty dc sc => by
    rw [← hW1, ← hcur1]
    exact run_copy_two W.drew _ _ ty tG g ((i + 1) * 2) (l.length + 1 - (i + 1)) dc ⟨g, i * 2, none⟩ (l.length + 1 - i) sc cur tG (fl (l.drop i)) (l.length - i) Try.underlying63 infoG2 hg (by simp only [Nat.min_def]; split <;> omega) hdl
      (fun j v hj => by rw [Addr.add_lit]; refine hcell (i * 2 + j) v ?_; rw [← List.getElem?_drop, fl_drop]; exact hj) (by rw [hdl, hcs]; omega) (fl_one fun x hx => hone x (List.mem_of_mem_drop hx))
  have hcp2 : ∀ ty dc, (Builtin.copy_ #[63, 63] ty #[.slice (some ⟨g, i * 2, none⟩) (l.length + 1 - i) dc, .slice (some ⟨vb, 0, none⟩) 1 1]).run Try.prog W1 = .ok (goInt 1) (W1.setRow g cur2) := fun ty dc => by
    rw [← hcur2]
    exact run_copy_two W1 _ _ ty tG g (i * 2) (l.length + 1 - i) dc ⟨vb, 0, none⟩ 1 1 cur1 tG [r.1, r.2] 1 Try.underlying63 infoG2 hg1 (by simp only [Nat.min_def]; split <;> omega) rfl
      (fun j v hj => by rw [add_plain, blk_cell hvb1]; simpa using hj) (by simp only [hc1s, List.length_cons, List.length_nil]; omega) (by intro v hv; simp at hv; rcases hv with rfl | rfl; exact hr.1; exact hr.2)
  have hsa : W.shape? vb = some (tG, 2) := by simp [World.shape?, hvb]
  have hsb : W.shape? g = some (tG, cap * 2) := by simp [World.shape?, hg, hcs]
  have hov : ∀ o lb cb, (callFunc 65 #[.slice (some ⟨vb, 0, none⟩) 1 1, .slice (some ⟨g, o, none⟩) lb cb]).run Try.prog W = .ok (.value (.bool false)) W := fun o lb cb => by
    rw [run_callFunc_extern Try.func65 (by kernel_rfl) (by kernel_rfl) (by kernel_rfl) (e := Extern.SlicesOverlaps.overlaps #[63, 63] #[4]) (by kernel_rfl),
      Lib.run_overlaps_apart W 63 4 tG Try.underlying63 2 sizeG ⟨vb, 0, none⟩ ⟨g, o, none⟩ 1 1 lb cb hne tG tG 2 (cap * 2) hsa hsb (by omega) (blk_frozen hvb 0) (blk_frozen hvb 2)]
    rfl
  have hz2 : ¬ ((i : Int) = (l.length : Int)) := by omega
  have hw1 : IntKind.i64.wrap ((i : Int) + 1) = (i : Int) + 1 := by rw [IntKind.wrap_i64]; omega
  have hb1 : (0 : Int) ≤ (i : Int) + 1 := by omega
  have hin : i ≤ l.length := by omega
  have htn : ((i : Int) + 1).toNat = i + 1 := by omega
  have hb2 : ¬ (cap = i + 1) := by omega
  have hb3 : (i : Int) ≤ (l.length : Int) + 1 := by omega
  have hb4 : ¬ (cap = i) := by omega
  go_enter Try.func44, Try.ntmps44
  have mixed : Try.prog.follows Departure.mixedOrders = true := by kernel_rfl
  go_wp2_with (simp only [hov])
  go_region_law_o (refine step_copy_two rfl _ _ 63 63 rfl (.slice (some ⟨g, (i + 1) * 2, none⟩) (l.length + 1 - (i + 1)) (cap - (i + 1))) (.slice (some ⟨g, i * 2, none⟩) (l.length + 1 - i) (cap - i)) (by simp [Act.eval, Act.put]) (by simp [Act.eval, Act.put]) (hcp1 _ _ _) ?_)
  go_wp2_with (at_builtin; refine wpList_copy_two _ rfl _ _ 63 63 rfl _ _ rfl rfl (hcp2 _ _) ?_)
  go_ret
  have hlen : (l.take i ++ r :: l.drop i).length = l.length + 1 := by
    simp only [List.length_append, List.length_take, List.length_cons, List.length_drop]
    omega
  refine ⟨_, rfl, ⟨⟨fl_length _, .inr ⟨g, cap, cur2, by rw [hlen]; rfl, hgb, setRow_heap W1 g cur1 cur2 tG (0, 0) hg1, by omega, hcm, hc2l, by rw [hlen, hfin]⟩⟩, fun x hx => ?_⟩, ?_, rfl⟩
  · rcases List.mem_append.1 hx with h | h
    · exact hone x (List.mem_of_mem_take h)
    · rcases List.mem_cons.1 h with rfl | h
      · exact hr
      · exact hone x (List.mem_of_mem_drop h)
  · rw [← hW1]
    exact grownBy_rows (grownBy_rows (grown_of_below (below_drew (Below.refl _ _)) _))
set_option maxHeartbeats 4000000 in
set_option maxRecDepth 100000 in
/-- Into the midst, where there is no room. -/
theorem insert_grow (base : Nat) (g cap : Nat) (l : List Raw) (i : Nat) (r : Raw) (vb : Nat) (W : World) (hG : GA W base (.slice (some ⟨g, 0, none⟩) l.length cap) l) (hvb : W.heap[vb]? = some (.cells #[r.1, r.2] tG (0, 0))) (hr : One r) (hne : vb ≠ g)
    (hb : base ≤ W.heap.size) (hbig : l.length ≤ 1048576) (hi : i < l.length) (hroom : cap < l.length + 1) :
    Calls Try.prog 44 #[.slice (some ⟨g, 0, none⟩) l.length cap, .int .i64 i, .slice (some ⟨vb, 0, none⟩) 1 1] W fun e W' => ∃ v', e = .returned v' ∧ GA W' base v' (l.take i ++ r :: l.drop i) ∧ Below W.heap.size W W' ∧ v'.ownBlock = some W.heap.size := by
  obtain ⟨⟨hl0, hown⟩, hone⟩ := hG
  obtain ⟨g', cap', cur, hv, hgb, hg, hnc, hcm, hcs, hct⟩ : ∃ g' cap' cur, Value.slice (some ⟨g, 0, none⟩) l.length cap = .slice (some ⟨g', 0, none⟩) l.length cap' ∧ base ≤ g' ∧ W.heap[g']? = some (.cells cur tG (0, 0)) ∧ l.length ≤ cap' ∧ cap' ≤ maxLen ∧ cur.size = cap' * 2 ∧ cur.toList.take (l.length * 2) = fl l := by
    rcases hown with h | h
    · have := h.2; omega
    · exact h
  obtain ⟨rfl, rfl⟩ : g = g' ∧ cap = cap' := by simpa using hv
  clear hv hown
  have hcl : cur.toList.length = cap * 2 := by simpa using hcs
  have hdl : (fl (l.drop i)).length = (l.length - i) * 2 := by rw [fl_length, List.length_drop]
  have hcell : ∀ V : World, V.heap[g]? = some (.cells cur tG (0, 0)) → ∀ j v, (fl l)[j]? = some v → V.cell? ⟨g, j, none⟩ = some v := fun V hV j v hj => by
    rw [blk_cell hV, ← Array.getElem?_toList]
    rw [← hct] at hj
    rw [List.getElem?_take] at hj
    split at hj
    · exact hj
    · cases hj
  obtain ⟨i0, hi0, hz0, hzs, hzb⟩ : ∃ i0, Try.prog.info? tG = some i0 ∧ i0.zero = some (.agg #[.slice none 0 0, .slice none 0 0]) ∧ i0.size = 2 ∧ i0.bytes = 48 := by
    obtain ⟨i0, h, e⟩ := Option.map_eq_some_iff.1 infoG
    simp only [Prod.mk.injEq] at e
    exact ⟨i0, h, e.1, e.2.1, e.2.2⟩
  have hold : (Builtin.firstCells i0.size i (.slice (some ⟨g, 0, none⟩) i cap)).run Try.prog W.drew = .ok (fl (l.take i)).toArray W.drew := by
    rw [hzs]
    exact run_firstCells_some W.drew 2 i ⟨g, 0, none⟩ i cap (fl (l.take i)) (by rw [fl_length, List.length_take]; omega) (fun j v hj => by
      rw [add_plain]
      refine hcell W.drew hg j v ?_
      rw [← fl_take, List.getElem?_take] at hj
      split at hj
      · exact hj
      · cases hj)
  have hkk : (l.length : Int) + 1 - (i : Int) = ((l.length + 1 - i : Nat) : Int) := by omega
  have hik : i + (l.length + 1 - i) = l.length + 1 := by omega
  have hrz : ∀ ty, (Builtin.append_ #[63, 3] ty #[.slice (some ⟨g, 0, none⟩) i cap, .int .i64 ((l.length : Int) + 1 - (i : Int))]).run Try.prog W =
      .ok (.slice (some ⟨W.heap.size, 0, none⟩) (l.length + 1) (grownCap W (l.length + 1) cap tG)) (W.drew.alloc (.cells ((fl (l.take i)).toArray ++ Builtin.zeroCells (Value.agg #[.slice none 0 0, .slice none 0 0]).cells (l.length + 1 - i) ++ Builtin.zeroCells (Value.agg #[.slice none 0 0, .slice none 0 0]).cells (grownCap W (l.length + 1) cap tG - (l.length + 1))) tG)) := fun ty => by
    have h := Lib.run_append_grow_zeros W 63 3 ty tG i0 _ .i64 .i64 Try.underlying63 Try.underlying3 hi0 hz0 (some ⟨g, 0, none⟩) i cap (fl (l.take i)) hold (l.length + 1 - i) (by omega) (by omega) (by omega) (by omega) (by rw [hzb]; omega) (by rw [hzb, hik]; exact growslice_fits hroom (by omega))
    rw [hik] at h
    rw [hkk]
    exact h
  have hGn : l.length + 1 ≤ grownCap W (l.length + 1) cap tG := grownCap_ge W _ _ _
  have hG63 : grownCap W (l.length + 1) cap tG ≤ maxLen := grownCap_le_maxLen W _ _ _ (by unfold maxLen; omega)
  have hGm : grownCap W (l.length + 1) cap tG ≤ 9223372036854775807 := by unfold maxLen at hG63; omega
  generalize grownCap W (l.length + 1) cap tG = G at *
  obtain ⟨ROW, hROW⟩ : ∃ ROW : Array Value, (fl (l.take i)).toArray ++ Builtin.zeroCells (Value.agg #[.slice none 0 0, .slice none 0 0]).cells (l.length + 1 - i) ++ Builtin.zeroCells (Value.agg #[.slice none 0 0, .slice none 0 0]).cells (G - (l.length + 1)) = ROW := ⟨_, rfl⟩
  rw [hROW] at hrz
  have htl : (fl (l.take i)).length = i * 2 := by rw [fl_length, List.length_take]; omega
  have hRs : ROW.size = G * 2 := by
    rw [← hROW]
    have hc2 : (Value.agg #[.slice none 0 0, .slice none 0 0]).cells.size = 2 := rfl
    simp only [Array.size_append, List.size_toArray, htl, size_zeroCells, hc2]
    omega
  have hRl : ROW.toList.length = G * 2 := by simpa using hRs
  have hRt : ROW.toList.take (i * 2) = fl (l.take i) := by
    rw [← hROW]
    simp only [Array.toList_append, List.toList_toArray, List.append_assoc]
    rw [← htl, List.take_left]
  obtain ⟨nb, hnb⟩ : ∃ nb, W.heap.size = nb := ⟨_, rfl⟩
  have hgn : g ≠ nb := by have := blk_lt hg; omega
  have hvn : vb ≠ nb := by have := blk_lt hvb; omega
  obtain ⟨cur1, hcur1⟩ : ∃ cur1, (ROW.toList.take (i * 2) ++ [r.1, r.2] ++ ROW.toList.drop (i * 2 + [r.1, r.2].length)).toArray = cur1 := ⟨_, rfl⟩
  have hc1l : cur1.toList.length = G * 2 := by
    rw [← hcur1]
    simp only [List.toList_toArray, List.length_append, List.length_take, List.length_drop, hRl, List.length_cons, List.length_nil]
    omega
  have hc1s : cur1.size = G * 2 := by simpa using hc1l
  have e1 : cur1.toList.take ((i + 1) * 2) = fl (l.take i) ++ [r.1, r.2] := by
    have : (fl (l.take i) ++ [r.1, r.2]).length = (i + 1) * 2 := by simp only [List.length_append, htl, List.length_cons, List.length_nil]; omega
    rw [← hcur1, List.toList_toArray, hRt, ← this, List.take_left]
  obtain ⟨cur2, hcur2⟩ : ∃ cur2, (cur1.toList.take ((i + 1) * 2) ++ fl (l.drop i) ++ cur1.toList.drop ((i + 1) * 2 + (fl (l.drop i)).length)).toArray = cur2 := ⟨_, rfl⟩
  have hc2l : cur2.size = G * 2 := by
    rw [← hcur2]
    simp only [List.size_toArray, List.length_append, List.length_take, List.length_drop, hc1l, hdl]
    omega
  have hfin : cur2.toList.take ((l.length + 1) * 2) = fl (l.take i ++ r :: l.drop i) := by
    have e3 : cur2.toList = fl (l.take i ++ r :: l.drop i) ++ cur1.toList.drop ((i + 1) * 2 + (fl (l.drop i)).length) := by
      rw [← hcur2, List.toList_toArray, e1, fl_append]
      simp [fl]
    have e4 : (fl (l.take i ++ r :: l.drop i)).length = (l.length + 1) * 2 := by
      rw [fl_length]
      simp only [List.length_append, List.length_take, List.length_cons, List.length_drop]
      omega
    rw [e3, ← e4, List.take_left]
  have hcpA : ∀ V : World, V.heap[nb]? = some (.cells ROW tG (0, 0)) → V.heap[vb]? = some (.cells #[r.1, r.2] tG (0, 0)) → ∀ ty dc, (Builtin.copy_ #[63, 63] ty #[.slice (some ⟨nb, i * 2, none⟩) (l.length + 1 - i) dc, .slice (some ⟨vb, 0, none⟩) 1 1]).run Try.prog V = .ok (goInt 1) (V.setRow nb cur1) := fun V hV1 hV2 ty dc => by
    rw [← hcur1]
    exact run_copy_two V _ _ ty tG nb (i * 2) (l.length + 1 - i) dc ⟨vb, 0, none⟩ 1 1 ROW tG [r.1, r.2] 1 Try.underlying63 infoG2 hV1 (by simp only [Nat.min_def]; split <;> omega) rfl
      (fun j v hj => by rw [add_plain, blk_cell hV2]; simpa using hj) (by simp only [hRs, List.length_cons, List.length_nil]; omega) (by intro v hv; simp at hv; rcases hv with rfl | rfl; exact hr.1; exact hr.2)
  have hcpB : ∀ V : World, V.heap[nb]? = some (.cells cur1 tG (0, 0)) → V.heap[g]? = some (.cells cur tG (0, 0)) → ∀ ty dc sc, (Builtin.copy_ #[63, 63] ty #[.slice (some ⟨nb, (i + 1) * 2, none⟩) (l.length + 1 - (i + 1)) dc, .slice (some ⟨g, i * 2, none⟩) (l.length - i) sc]).run Try.prog V = .ok (goInt ((l.length - i : Nat) : Int)) (V.setRow nb cur2) := fun V hV1 hV2 ty dc sc => by
    rw [← hcur2]
    exact run_copy_two V _ _ ty tG nb ((i + 1) * 2) (l.length + 1 - (i + 1)) dc ⟨g, i * 2, none⟩ (l.length - i) sc cur1 tG (fl (l.drop i)) (l.length - i) Try.underlying63 infoG2 hV1 (by simp only [Nat.min_def]; split <;> omega) hdl
      (fun j v hj => by rw [Addr.add_lit]; refine hcell V hV2 (i * 2 + j) v ?_; rw [← List.getElem?_drop, fl_drop]; exact hj) (by rw [hdl, hc1s]; omega) (fl_one fun x hx => hone x (List.mem_of_mem_drop hx))
  obtain ⟨W1, hW1⟩ : ∃ W1, W.drew.alloc (.cells ROW tG) = W1 := ⟨_, rfl⟩
  have hnW1 : W1.heap[nb]? = some (.cells ROW tG (0, 0)) := by rw [← hW1, ← hnb]; exact blk_new W.drew _
  have hvW1 : W1.heap[vb]? = some (.cells #[r.1, r.2] tG (0, 0)) := by rw [← hW1]; exact blk_alloc (blk_drew hvb) _
  have hgW1 : W1.heap[g]? = some (.cells cur tG (0, 0)) := by rw [← hW1]; exact blk_alloc (blk_drew hg) _
  have hbW1 : Below W.heap.size W W1 := by rw [← hW1]; exact below_alloc (below_drew (Below.refl _ _)) _
  rw [hW1, hnb] at hrz
  obtain ⟨W2, hW2⟩ : ∃ W2, W1.setRow nb cur1 = W2 := ⟨_, rfl⟩
  have hnW2 : W2.heap[nb]? = some (.cells cur1 tG (0, 0)) := by rw [← hW2]; exact setRow_heap W1 nb ROW cur1 tG (0, 0) hnW1
  have hgW2 : W2.heap[g]? = some (.cells cur tG (0, 0)) := by
    rw [← hW2]
    simp [World.setRow, Array.getElem?_modify, Ne.symm hgn]
    exact hgW1
  have hcpA1 := hcpA W1 hnW1 hvW1
  rw [hW2] at hcpA1
  have hcpB1 := hcpB W2.drew hnW2 hgW2
  have hz2 : ¬ ((i : Int) = (l.length : Int)) := by omega
  have hz3 : (cap : Int) < (l.length : Int) + 1 := by omega
  have hw1 : IntKind.i64.wrap ((i : Int) + 1) = (i : Int) + 1 := by rw [IntKind.wrap_i64]; omega
  have hb1 : (0 : Int) ≤ (i : Int) + 1 := by omega
  have hin : i ≤ l.length := by omega
  have htn : ((i : Int) + 1).toNat = i + 1 := by omega
  have hb2 : ¬ (G = i + 1) := by omega
  have hb3 : (i : Int) ≤ (l.length : Int) := by omega
  have hb4 : ¬ (G = i) := by omega
  have hb5 : ¬ (cap = i) := by omega
  have mixed : Try.prog.follows Departure.mixedOrders = true := by kernel_rfl
  clear hkk hik hold hROW hRl hRt hcpA hcpB hcell hcur1 hcur2 hW1
  go_enter Try.func44, Try.ntmps44
  go_wp2_with (first
    | (at_builtin; refine Lib.wpList_append_run _ rfl _ _ _ _ rfl _ _ rfl rfl _ _ (hrz _) ?_)
    | (at_builtin; refine wpList_copy_two _ rfl _ _ 63 63 rfl _ _ rfl rfl (hcpA1 _ _) ?_))
  go_region_law_o (refine step_copy_two rfl _ _ 63 63 rfl (.slice (some ⟨nb, (i + 1) * 2, none⟩) (l.length + 1 - (i + 1)) (G - (i + 1))) (.slice (some ⟨g, i * 2, none⟩) (l.length - i) (cap - i)) (by simp [Act.eval, Act.put]) (by simp [Act.eval, Act.put]) (hcpB1 _ _ _) ?_)
  go_wp2
  go_ret
  have hlen : (l.take i ++ r :: l.drop i).length = l.length + 1 := by
    simp only [List.length_append, List.length_take, List.length_cons, List.length_drop]
    omega
  have hlt : W.heap.size ≤ nb := by omega
  refine ⟨_, rfl, ⟨⟨fl_length _, .inr ⟨nb, G, cur2, by rw [hlen]; rfl, by omega, setRow_heap W2.drew nb cur1 cur2 tG (0, 0) hnW2, by omega, hG63, hc2l, by rw [hlen, hfin]⟩⟩, fun x hx => ?_⟩, ?_, by rw [hnb]; rfl⟩
  · rcases List.mem_append.1 hx with h | h
    · exact hone x (List.mem_of_mem_take h)
    · rcases List.mem_cons.1 h with rfl | h
      · exact hr
      · exact hone x (List.mem_of_mem_drop h)
  · refine below_rows ?_ hlt
    refine below_drew ?_
    rw [← hW2]
    exact below_rows hbW1 hlt
/-- slices.Insert of one group: whatever the room. -/
theorem insert_any (base : Nat) (v : Value) (l : List Raw) (i : Nat) (r : Raw) (vb : Nat) (W : World) (hG : GA W base v l) (hvb : W.heap[vb]? = some (.cells #[r.1, r.2] tG (0, 0))) (hr : One r) (hne : some vb ≠ v.ownBlock)
    (hb : base ≤ W.heap.size) (hbig : l.length ≤ 1048576) (hi : i ≤ l.length) :
    Calls Try.prog 44 #[v, .int .i64 i, .slice (some ⟨vb, 0, none⟩) 1 1] W fun e W' => ∃ v', e = .returned v' ∧ GA W' base v' (l.take i ++ r :: l.drop i) ∧ W.grownBy W' v.ownBlock ∧ (v'.ownBlock = v.ownBlock ∨ ∃ b, v'.ownBlock = some b ∧ W.heap.size ≤ b) := by
  rcases Nat.lt_or_ge i l.length with hlt | hge
  · have hown := hG.1.2
    rcases hown with h | ⟨g, cap, cur, rfl, hgb, hg, hnc, hcm, hcs, hct⟩
    · omega
    · have hng : vb ≠ g := fun e => hne (by rw [e]; rfl)
      rcases Nat.lt_or_ge cap (l.length + 1) with hc | hc
      · refine (insert_grow base g cap l i r vb W hG hvb hr hng hb hbig hlt hc).mono ?_
        rintro e W' ⟨v', h1, h2, h3, h4⟩
        exact ⟨v', h1, h2, grown_of_below h3 _, .inr ⟨_, h4, Nat.le_refl _⟩⟩
      · refine (insert_shift base g cap l i r vb W hG hvb hr hng hb hbig hlt hc).mono ?_
        rintro e W' ⟨v', h1, h2, h3, h4⟩
        exact ⟨v', h1, h2, h3, .inl h4⟩
  · obtain rfl : i = l.length := by omega
    rw [List.take_length, List.drop_length]
    exact insert_end base v l r vb W hG hvb hr hne hb hbig
end Go.Proofs.Ytghblnldokpceaa.QV
/- Stable sorting, plain: elements are told by where they stood first; who is ahead of whom. -/
namespace Go.Proofs.Ytghblnldokpceaa.Stab

/-- A comparison that may sort. -/
structure CmpOk (cf : Nat → Nat → Int) : Prop where
  swap : ∀ x y, cf x y < 0 ↔ 0 < cf y x
  trans : ∀ x y z, cf x y ≤ 0 → cf y z ≤ 0 → cf x z ≤ 0
def Lt (cf : Nat → Nat → Int) (x y : Nat) : Prop := cf x y < 0 ∨ (cf x y = 0 ∧ x < y)
section
variable {cf : Nat → Nat → Int}
theorem Lt.trans (h : CmpOk cf) {x y z : Nat} (a : Lt cf x y) (b : Lt cf y z) : Lt cf x z := by
  have h1 := h.trans x y z
  have h2 := h.trans y z x
  have h3 := h.trans z x y
  have e1 := h.swap x z; have e2 := h.swap z x; have e3 := h.swap x y; have e4 := h.swap y x; have e5 := h.swap y z; have e6 := h.swap z y
  unfold Lt at *
  omega
theorem Lt.of_not (h : CmpOk cf) {x y : Nat} (hxy : x < y) (hn : ¬ cf y x < 0) : Lt cf x y := by
  have e3 := h.swap x y; have e4 := h.swap y x
  unfold Lt
  omega
end
end Go.Proofs.Ytghblnldokpceaa.Stab
/- Printed by mp.py (this session's) with the kit's print: plain functions with the answers of the Go code, and the proofs of it. -/
namespace Go.Proofs.Ytghblnldokpceaa.QV
open Go.RowKit Go.Proofs.YtghblnldokpceaaW.PrintWords Go.Proofs.YtghblnldokpceaaW.PrintLast Go.Proofs.YtghblnldokpceaaW.PrintMore
attribute [local go_sem] max2_int min2_int max_two min_two max_three min_three max_four min_four   -- for this text's walks alone
set_option linter.unusedVariables false
set_option linter.unusedSimpArgs false

/-! ### hayloftref15_Pick: function 47 -/
def hayloftref15_Pick.l0 : Nat → List (S42) → List Int → List (S42) → Int → Option ((List (S42)))
  | 0, _, _, _, _ => none
  | k + 1, x0, x1, x5, x6 => if x6 < (x1.length : Int) then (if 0 ≤ x6 then ((hayloftref15_At.f x0 (rd x1 x6)).bind fun bt190 => (if x5.length < 3518437208883 then (hayloftref15_Pick.l0 k x0 x1 (x5 ++ [(⟨bt190.1, bt190.2.1, bt190.2.2.1, bt190.2.2.2⟩ : S42)]) (wrap64 (x6 + 1))) else (none))) else (none)) else (some x5)
def hayloftref15_Pick.f (k : Nat) (l0 : List (S42)) (l1 : List Int) : Option ((List (S42))) := hayloftref15_Pick.l0 k l0 l1 ([] : List (S42)) 0
set_option maxHeartbeats 8000000 in
set_option maxRecDepth 100000 in
theorem hayloftref15_Pick.calls (k : Nat) (A0 : Option Addr) (c0 : Nat) (l0 : List (S42)) (A1 : Option Addr) (c1 : Nat) (l1 : List Int) (r : List (S42)) (w : World) (hr0 : Kd.C k42 w A0 l0.length l0) (hc0 : l0.length ≤ c0) (hr1 : Kd.C (Kd.int .i64) w A1 l1.length l1) (hc1 : l1.length ≤ c1) (h : hayloftref15_Pick.f k l0 l1 = some r) :
    Calls Try.prog 47 #[.slice A0 l0.length c0, .slice A1 l1.length c1] w fun e w' => ∃ v0_ : Value, e = .returned (v0_) ∧ Kd.R k42 42 w' w.heap.size (fun _ => True) v0_ r ∧ Below w.heap.size w w' := by
  have HR0 := Aside0.mk hr0
  have HC0 := Aside0.mk hc0
  clear hr0 hc0
  have HR1 := Aside0.mk hr1
  have HC1 := Aside0.mk hc1
  clear hr1 hc1
  have HB := Aside0.mk (Below.refl w.heap.size w)
  have H : (hayloftref15_Pick.l0 k l0 l1 ([] : List (S42)) 0) = some r := h
  clear h
  have H' := Aside0.mk H
  clear H
  go_enter Try.func47, Try.ntmps47
  go_wp2
  go_loopg [5, 6] k (fun kq v5 v6 w' => ∃ (x5_1 : List (S42)) (x6_1 : Int), v6 = .int .i64 x6_1 ∧ Aside0 (hayloftref15_Pick.l0 kq l0 l1 x5_1 x6_1 = some r) ∧ Aside0 (kq ≤ k) ∧ Aside0 (Kd.R k42 42 w' w.heap.size (fun _ => True) v5 x5_1) ∧ Aside0 (Below w.heap.size w w'))
  case atStart => exact ⟨(([] : List (S42))), (0), (by first | rfl | (simp; done) | (simp [*]; done)), H', ⟨Nat.le_refl _⟩, ⟨by first | exact Kd.R_nil _ _ _ _ _ | exact Kd.N_nil _ _ _ _ _ | exact Kd.V_nil _ _ _ _ _ | exact Kd.Q_nil _ _ _ _ _ | exact Kd.S_nil _ _ _ _ _⟩, ⟨by repeat (first | (with_reducible first | exact HB.out | apply below_alloc | apply pw_below_drewN | apply below_drew1) | exact HB.out)⟩⟩
  case round =>
    clear H'
    try clear c1
    try clear p2
    obtain ⟨x5_1, x6_1, rfl, HA, HK1, HO_5, HB⟩ := hrel
    cases gk with
    | zero => exact absurd HA.out (by simp [hayloftref15_Pick.l0])
    | succ k1 =>
      have H := HA.out
      clear HA
      simp only [hayloftref15_Pick.l0] at H
      by_cases c3 : x6_1 < (l1.length : Int)
      · rw [if_pos c3] at H
        have c3b0 : decide (x6_1 < (l1.length : Int)) = true := decide_eq_true c3
        clear c3
        by_cases c4 : 0 ≤ x6_1
        · rw [if_pos c4] at H
          have c4b0 : decide (0 ≤ x6_1) = true := decide_eq_true c4
          clear c4
          replace H := Option.bind_eq_some_iff.mp H
          obtain ⟨⟨t190, t191, t192, t193⟩, A50, H⟩ := H
          replace H : (if x5_1.length < 3518437208883 then (hayloftref15_Pick.l0 k1 l0 l1 (x5_1 ++ [(⟨t190, t191, t192, t193⟩ : S42)]) (wrap64 (x6_1 + 1))) else (none)) = some r := H
          have A5 := Aside0.mk A50
          clear A50
          by_cases c6 : x5_1.length < 3518437208883
          · rw [if_pos c6] at H
            have LMc6 := Aside0.mk c6
            clear c6
            obtain ⟨y194, hy194⟩ : ∃ y_ : List (S42), y_ = (x5_1 ++ [(⟨t190, t191, t192, t193⟩ : S42)]) := ⟨_, rfl⟩
            replace H : (hayloftref15_Pick.l0 k1 l0 l1 y194 (wrap64 (x6_1 + 1))) = some r := by first | (rw [hy194]; with_reducible exact H) | (have H2_ := (Option.bind_some _ _).symm.trans H; rw [hy194]; with_reducible exact H2_) | (have H2_ := (Option.bind_some _ _).symm.trans H; with_reducible exact H2_) | with_reducible exact H | (rw [hy194]; exact H) | exact H
            have Ny194 := Aside0.mk hy194
            clear hy194
            have H' := Aside0.mk H
            clear H
            have p189 : 0 ≤ (x6_1 : Int) := of_decide_eq_true (by first | (with_reducible assumption) | assumption)
            have q189 : x6_1 < (l1.length : Int) := of_decide_eq_true (by first | (with_reducible assumption) | assumption)
            obtain ⟨ad189, e189, hx189_0⟩ := Kd.at_int HR1.out x6_1 p189 q189
            cases e189
            replace hx189_0 := (HB.out.cell (World.block_lt_of_cell? w _ hx189_0)).trans hx189_0
            replace p189 := eq_true p189
            replace q189 := eq_true q189
            go_wp2_with (first | ((with_reducible refine gate_callee (f := 19) rfl ?_); refine goesL_ (some 19) rfl rfl Try.func19 (by kernel_rfl) rfl #[.slice A0 l0.length c0, .int .i64 (rd l1 x6_1)] rfl (by (try simp only [List.map_toArray, List.map_cons, List.map_nil]); first | done | rfl | (simp only [List.length_drop, List.length_take]; rfl)) ?_; (with_reducible refine (hayloftref15_At.calls _ _ l0 (rd l1 x6_1) t190 t191 t192 t193 _ ?side1 ?side2 A5.out).mono ?_); (case side1 => repeat (first | exact (Kd.C_below HR0.out HB.out) | (with_reducible refine Kd.C_alloc ?_ _) | (with_reducible refine Kd.C_drewN ?_ _) | (with_reducible refine Kd.C_drew ?_))); (case side2 => exact HC0.out); rintro e w7 ⟨rfl, hb⟩; refine ⟨_, rfl, ?_⟩; have n0_ := Aside0.mk (Kd.R_below (by (with_reducible repeat (first | apply Kd.R_alloc | apply Kd.R_drewN | apply Kd.R_drew)); exact HO_5.out) hb); have n1_ := Aside0.mk (below_step (by repeat (first | (with_reducible first | exact HB.out | apply below_alloc | apply pw_below_drewN | apply below_drew1) | exact HB.out)) hb); clear HO_5; clear HB; have HO_5 := n0_; have HB := n1_; clear n0_ n1_; (try clear hb); (try clear hb2); (try clear hk); (try clear hi)) | ((with_reducible refine gate_builtin (b := .append) (xs := #[.tmp 13, .tmp 20]) rfl ?_); at_builtin; refine Kd.R_append k42 (w0 := w) w.heap.size rfl (.tmp 13) (.tmp 20) 31 42 (.agg #[(.int .i64 0), (.bool false), (.int .i64 0), (.string ⟨#[]⟩)]) 40 rfl Try.underlying31 info42 rfl (by decide) (by omega) u5 x5_1 (⟨t190, t191, t192, t193⟩ : S42) [.int .i64 t190, .bool t191, .int .i64 t192, .string t193] (fun _ => True) (fun _ => False) rfl rfl ?aP (fun _ hk => hk.elim) ?aF ?aO ?aB ?aS ?aL ?_; (case aP => exact k42_mkM _ _ _ (⟨t190, t191, t192, t193⟩ : S42)); (case aB => exact (by repeat (first | (with_reducible first | exact HB.out | apply below_alloc | apply pw_below_drewN | apply below_drew1) | exact HB.out))); (case aF => exact (fun _ _ => trivial)); (case aO => exact (by (with_reducible repeat (first | apply Kd.R_alloc | apply Kd.R_drewN | apply Kd.R_drew)); exact HO_5.out)); (case aS => exact (below_size (by repeat (first | (with_reducible first | exact HB.out | apply below_alloc | apply pw_below_drewN | apply below_drew1) | exact HB.out)))); (case aL => have := LMc6.out; omega); intro v195 w8 ho hb hg hat; rw [← Ny194.out] at ho; have n0_ := Aside0.mk (hb); have n1_ := Aside0.mk (ho); clear HB; clear HO_5; have HB := n0_; have HO196 := n1_; clear n0_ n1_; clear ho hb hg hat))
            go_roundg k1
            case measure => have := HK1.out; omega
            case rel => exact ⟨(y194), (wrap64 (x6_1 + 1)), (by first | rfl | (simp; done) | (simp [*]; done)), H', ⟨by have := HK1.out; omega⟩, ⟨by (with_reducible repeat (first | apply Kd.R_alloc | apply Kd.R_drewN | apply Kd.R_drew)); exact HO196.out⟩, ⟨by repeat (first | (with_reducible first | exact HB.out | apply below_alloc | apply pw_below_drewN | apply below_drew1) | exact HB.out)⟩⟩
          · rw [if_neg c6] at H
            exact absurd H (by simp)
        · rw [if_neg c4] at H
          exact absurd H (by simp)
      · rw [if_neg c3] at H
        have c3b0 : decide (x6_1 < (l1.length : Int)) = false := decide_eq_false c3
        clear c3
        obtain rfl := Option.some.inj H
        go_wp2
        go_ret
        exact ⟨_, by first | rfl | (simp [errW_none, errW_some] <;> rfl) | (simp [*, errW_none, errW_some] <;> rfl), by (with_reducible repeat (first | apply Kd.R_alloc | apply Kd.R_drewN | apply Kd.R_drew)); exact HO_5.out, by repeat (first | (with_reducible first | exact HB.out | apply below_alloc | apply pw_below_drewN | apply below_drew1) | exact HB.out)⟩

/-! ### hayloftref15_ahead: function 52 -/
def hayloftref15_ahead.l0 : Nat → List (S42) → List (S42) → List (S77) → Int → Option (Bool)
  | 0, _, _, _, _ => none
  | k + 1, x0, x1, x2, x7 => if x7 < (x2.length : Int) then (if 0 ≤ x7 then ((hayloftref15_At.f x0 ((rd_T77 x2 x7).f0)).bind fun bt199 => ((hayloftref15_At.f x1 ((rd_T77 x2 x7).f0)).bind fun bt204 => ((hayloftref02_Compare.f bt199.1 bt199.2.1 bt199.2.2.1 bt199.2.2.2 bt204.1 bt204.2.1 bt204.2.2.1 bt204.2.2.2).bind fun t208 => (if t208 = 0 then (hayloftref15_ahead.l0 k x0 x1 x2 (wrap64 (x7 + 1))) else (some ((decide (t208 < 0)) != ((rd_T77 x2 x7).f1))))))) else (none)) else ((hayloftref02_Rows.f x0 x1).bind fun t197 => (some (decide (t197 < 0))))
def hayloftref15_ahead.f (k : Nat) (l0 : List (S42)) (l1 : List (S42)) (l2 : List (S77)) : Option (Bool) := hayloftref15_ahead.l0 k l0 l1 l2 0
end Go.Proofs.Ytghblnldokpceaa.QV
/- Printed by mp.py (this session's) with the kit's print: plain functions with the answers of the Go code, and the proofs of it. -/
namespace Go.Proofs.Ytghblnldokpceaa.QV
open Go.RowKit Go.Proofs.YtghblnldokpceaaW.PrintWords Go.Proofs.YtghblnldokpceaaW.PrintLast Go.Proofs.YtghblnldokpceaaW.PrintMore
attribute [local go_sem] max2_int min2_int max_two min_two max_three min_three max_four min_four   -- for this text's walks alone
set_option linter.unusedVariables false
set_option linter.unusedSimpArgs false

/-! ### hayloftref15_Sort: function 25 -/
mutual
def hayloftref15_Sort.l0 : Nat → List (List (S42)) → List (S77) → List (List (S42)) → Int → Option ((List (List (S42))))
  | 0, _, _, _, _ => none
  | k + 1, x0, x1, x5, x6 => if x6 < (x0.length : Int) then (hayloftref15_Sort.l1 k x0 x1 x5 x6 (x5.length : Int)) else (some x5)
def hayloftref15_Sort.l1 : Nat → List (List (S42)) → List (S77) → List (List (S42)) → Int → Int → Option ((List (List (S42))))
  | 0, _, _, _, _, _ => none
  | k + 1, x0, x1, x5, x6, x7 => if x7 > 0 then (if 0 ≤ x6 then (if x6 < (x0.length : Int) then (if 0 ≤ (wrap64 (x7 - 1)) then (if (wrap64 (x7 - 1)) < (x5.length : Int) then ((hayloftref15_ahead.f k (rd_L4 x0 x6) (rd_L4 x5 (wrap64 (x7 - 1))) x1).bind fun t212 => (if t212 = true then (hayloftref15_Sort.l1 k x0 x1 x5 x6 (wrap64 (x7 - 1))) else (if 0 ≤ x7 then (if x7 ≤ (x5.length : Int) then ((some (x5.take (x7 : Int).toNat : List (List (S42)))).bind fun y213 => (if ([] : List (List (S42))).length + y213.length < 5864062014805 then ((some (([] : List (List (S42))) ++ y213 : List (List (S42)))).bind fun y218 => (if y218.length < 5864062014805 then ((some (y218 ++ [rd_L4 x0 x6] : List (List (S42)))).bind fun y222 => ((some (x5.drop (x7 : Int).toNat : List (List (S42)))).bind fun y225 => (if y222.length + y225.length < 5864062014805 then (hayloftref15_Sort.l0 k x0 x1 (y222 ++ y225) (wrap64 (x6 + 1))) else (none)))) else (none))) else (none))) else (none)) else (none)))) else (none)) else (none)) else (none)) else (none)) else (if 0 ≤ x7 then (if x7 ≤ (x5.length : Int) then ((some (x5.take (x7 : Int).toNat : List (List (S42)))).bind fun y233 => (if ([] : List (List (S42))).length + y233.length < 5864062014805 then ((some (([] : List (List (S42))) ++ y233 : List (List (S42)))).bind fun y238 => (if 0 ≤ x6 then (if x6 < (x0.length : Int) then (if y238.length < 5864062014805 then ((some (y238 ++ [rd_L4 x0 x6] : List (List (S42)))).bind fun y242 => ((some (x5.drop (x7 : Int).toNat : List (List (S42)))).bind fun y245 => (if y242.length + y245.length < 5864062014805 then (hayloftref15_Sort.l0 k x0 x1 (y242 ++ y245) (wrap64 (x6 + 1))) else (none)))) else (none)) else (none)) else (none))) else (none))) else (none)) else (none))
end
end Go.Proofs.Ytghblnldokpceaa.QV
/- Sorting rows, plain: the order that is asked for; the reference's Sort. -/
namespace Go.Proofs.Ytghblnldokpceaa.QV
open Go.RowKit Go.Proofs.YtghblnldokpceaaW.PrintWords Go.Proofs.Ytghblnldokpceaa.Op Go.Proofs.Ytghblnldokpceaa.Stab
set_option linter.unusedVariables false
set_option linter.unusedSimpArgs false
/-- A total order of which some may be equal. -/
structure Pre {α : Type} (f : α → α → Int) : Prop where
  swap : ∀ x y, f x y < 0 ↔ 0 < f y x
  trans : ∀ x y z, f x y ≤ 0 → f y z ≤ 0 → f x z ≤ 0
theorem Pre.le {α : Type} {f : α → α → Int} (h : Pre f) (x y : α) : f x y ≤ 0 ↔ 0 ≤ f y x := by
  have := h.swap x y; have := h.swap y x; omega
theorem Pre.lt_le {α : Type} {f : α → α → Int} (h : Pre f) {x y z : α} (a : f x y < 0) (b : f y z ≤ 0) : f x z < 0 := by
  have h1 := h.trans x y z; have h2 := h.trans y z x; have e1 := h.swap x y; have e2 := h.swap x z; have e3 := h.swap z x; have e4 := h.swap y x
  omega
theorem Pre.le_lt {α : Type} {f : α → α → Int} (h : Pre f) {x y z : α} (a : f x y ≤ 0) (b : f y z < 0) : f x z < 0 := by
  have h1 := h.trans x y z; have h2 := h.trans z x y; have e1 := h.swap y z; have e2 := h.swap x z; have e3 := h.swap z x; have e4 := h.swap z y
  omega
theorem Pre.neg {α : Type} {f : α → α → Int} (h : Pre f) : Pre (fun x y => -f x y) :=
  ⟨fun x y => by have := h.swap x y; have := h.swap y x; omega, fun x y z a b => by
    have h1 := (h.le y x).2 (by omega)
    have h2 := (h.le z y).2 (by omega)
    have h3 := h.trans z y x h2 h1
    have := (h.le z x).1 h3
    omega⟩
theorem Pre.on {α β : Type} {f : β → β → Int} (h : Pre f) (k : α → β) : Pre (fun x y => f (k x) (k y)) := ⟨fun x y => h.swap _ _, fun x y z => h.trans _ _ _⟩
theorem preV : Pre cmpV := ⟨fun x y => by have := cmpV_swap x y; omega, cmpV_trans⟩
theorem rowsV_swap : ∀ a b : List V, rowsV b a = -rowsV a b
  | [], [] => rfl
  | [], _ :: _ => rfl
  | _ :: _, [] => rfl
  | x :: xs, y :: ys => by
    rw [rowsV, rowsV, rowsV_swap xs ys, cmpV_swap x y]
    by_cases h : cmpV x y = 0
    · rw [if_pos h, if_pos (by omega)]
    · rw [if_neg h, if_neg (by omega)]
theorem rowsV_trans : ∀ a b c : List V, rowsV a b ≤ 0 → rowsV b c ≤ 0 → rowsV a c ≤ 0
  | [], _, [], _, _ => by simp [rowsV]
  | [], _, _ :: _, _, _ => by simp [rowsV]
  | _ :: _, [], _, h, _ => by simp [rowsV] at h
  | _ :: _, _ :: _, [], _, h => by simp [rowsV] at h
  | x :: xs, y :: ys, z :: zs, h1, h2 => by
    rw [rowsV] at h1 h2 ⊢
    have ih := rowsV_trans xs ys zs
    have t := cmpV_trans x y z
    by_cases a : cmpV x y = 0
    · rw [if_pos a] at h1
      by_cases b : cmpV y z = 0
      · rw [if_pos b] at h2
        by_cases c : cmpV x z = 0
        · rw [if_pos c]; exact ih h1 h2
        · rw [if_neg c]; omega
      · rw [if_neg b] at h2
        have := preV.le_lt (by omega : cmpV x y ≤ 0) (by omega : cmpV y z < 0)
        rw [if_neg (by omega)]; omega
    · rw [if_neg a] at h1
      have hb : cmpV y z ≤ 0 := by
        by_cases b : cmpV y z = 0
        · omega
        · rw [if_neg b] at h2; exact h2
      have := preV.lt_le (by omega : cmpV x y < 0) hb
      rw [if_neg (by omega)]; omega
theorem preRows : Pre rowsV := ⟨fun x y => by have := rowsV_swap x y; omega, rowsV_trans⟩
abbrev Ord : Type := S77
/-- R is xs, sorted: equals as they stood. -/
def Sorts {α : Type} (z : α) (f : α → α → Int) (xs R : List α) : Prop := ∃ S : List Nat, S.Perm (List.range xs.length) ∧ S.Pairwise (Lt (fun i j => f (xs.getD i z) (xs.getD j z))) ∧ R = S.map (fun i => xs.getD i z)
theorem Pre.ok {α : Type} {f : α → α → Int} (h : Pre f) (z : α) (xs : List α) : CmpOk (fun i j => f (xs.getD i z) (xs.getD j z)) := ⟨fun x y => h.swap _ _, fun x y w => h.trans _ _ _⟩
theorem Sorts.len {α : Type} {z : α} {f : α → α → Int} {xs R : List α} (a : Sorts z f xs R) : R.length = xs.length := by
  obtain ⟨S, h1, h2, h3⟩ := a
  rw [h3, List.length_map, h1.length_eq, List.length_range]
theorem Sorts.sorted {α : Type} {z : α} {f : α → α → Int} {xs R : List α} (a : Sorts z f xs R) : R.Pairwise (fun x y => f x y ≤ 0) := by
  obtain ⟨S, h1, h2, h3⟩ := a
  rw [h3, List.pairwise_map]
  refine h2.imp (fun h => ?_)
  rcases h with h | ⟨h, _⟩
  · exact Int.le_of_lt h
  · exact Int.le_of_eq h
/-- Of a list sorted so, one more behind. -/
theorem Sorts.snoc {α : Type} {z : α} {f : α → α → Int} (h : Pre f) {xs : List α} {x : α} {u v : List α} (a : Sorts z f xs (u ++ v)) (hv : ∀ y ∈ v, f x y < 0) (hu : ∀ y ∈ u, ¬ f x y < 0) : Sorts z f (xs ++ [x]) (u ++ x :: v) := by
  obtain ⟨S, h1, h2, h3⟩ := a
  obtain ⟨Su, Sv, rfl, hSu, hSv⟩ : ∃ Su Sv, S = Su ++ Sv ∧ u = Su.map (fun i => xs.getD i z) ∧ v = Sv.map (fun i => xs.getD i z) := by
    refine ⟨S.take u.length, S.drop u.length, (List.take_append_drop _ _).symm, ?_, ?_⟩
    · rw [List.map_take, ← h3]; simp
    · rw [List.map_drop, ← h3]; simp
  have hlt : ∀ i ∈ Su ++ Sv, i < xs.length := fun i hi => List.mem_range.1 (h1.mem_iff.1 hi)
  have hg : ∀ i, i < xs.length → (xs ++ [x]).getD i z = xs.getD i z := fun i hi => by
    rw [List.getD_eq_getElem?_getD, List.getD_eq_getElem?_getD, List.getElem?_append_left hi]
  have hx : (xs ++ [x]).getD xs.length z = x := by simp [List.getD_eq_getElem?_getD]
  have hmu : Su.map (fun i => (xs ++ [x]).getD i z) = u := by
    rw [hSu]
    exact List.map_congr_left (fun i hi => hg i (hlt i (by simp [hi])))
  have hmv : Sv.map (fun i => (xs ++ [x]).getD i z) = v := by
    rw [hSv]
    exact List.map_congr_left (fun i hi => hg i (hlt i (by simp [hi])))
  refine ⟨Su ++ xs.length :: Sv, ?_, ?_, ?_⟩
  · rw [List.length_append, List.length_singleton, List.range_succ]
    exact List.perm_middle.trans ((List.Perm.cons _ h1).trans (List.perm_append_singleton _ _).symm)
  · have hp : ∀ i j, i ∈ Su ++ Sv → j ∈ Su ++ Sv → Lt (fun i j => f (xs.getD i z) (xs.getD j z)) i j → Lt (fun i j => f ((xs ++ [x]).getD i z) ((xs ++ [x]).getD j z)) i j := fun i j hi hj hl => by
      show f ((xs ++ [x]).getD i z) ((xs ++ [x]).getD j z) < 0 ∨ (f ((xs ++ [x]).getD i z) ((xs ++ [x]).getD j z) = 0 ∧ i < j)
      rw [hg i (hlt i hi), hg j (hlt j hj)]
      exact hl
    have h2' := List.pairwise_append.1 h2
    refine List.pairwise_append.2 ⟨?_, List.pairwise_cons.2 ⟨?_, ?_⟩, ?_⟩
    · exact h2'.1.imp_of_mem (fun hi hj hl => hp _ _ (by simp [hi]) (by simp [hj]) hl)
    · intro j hj
      refine .inl ?_
      show f _ _ < 0
      rw [hx, hg j (hlt j (by simp [hj]))]
      exact hv _ (by rw [hSv]; exact List.mem_map_of_mem hj)
    · exact h2'.2.1.imp_of_mem (fun hi hj hl => hp _ _ (by simp [hi]) (by simp [hj]) hl)
    · intro i hi j hj
      rcases List.mem_cons.1 hj with hj | hj
      · subst hj
        refine Lt.of_not (h.ok z (xs ++ [x])) (hlt i (by simp [hi])) ?_
        show ¬ f _ _ < 0
        rw [hx, hg i (hlt i (by simp [hi]))]
        exact hu _ (by rw [hSu]; exact List.mem_map_of_mem hi)
      · exact hp _ _ (by simp [hi]) (by simp [hj]) (h2'.2.2 i hi j hj)
  · rw [List.map_append, List.map_cons, hmu, hmv, hx]
theorem Sorts.nil {α : Type} (z : α) (f : α → α → Int) : Sorts z f [] [] := ⟨[], by simp, by simp, rfl⟩
end Go.Proofs.Ytghblnldokpceaa.QV
/- As XRoundW, where S is asked for only until operation d has gone; what reads no world at all is taken at any time. -/
namespace Go.Proofs.Ytghblnldokpceaa.SeqX
open Go Go.RowKit Go.Proofs.Ytghblnldokpceaa.SeqW
set_option linter.unusedVariables false
section
variable {l : Nat} {P : Program} {ops : Array Oper} {Q : Exit → Act → World → Prop} {S : World → Prop} {d : Nat}
def Off (d i : Nat) (listed : Array Bool) : Prop := i = d ∨ listed.getD d false = true
def wpAnyX (l : Nat) (P : Program) (ops : Array Oper) (Q : Exit → Act → World → Prop) (S : World → Prop) (d : Nat) : Nat → Array Bool → Act → World → Prop
  | 0, listed, a, w => Region.ready .any ops listed = [] ∧ Q .normal a w
  | fuel + 1, listed, a, w => (Region.ready .any ops listed = [] → Q .normal a w) ∧
    ∀ i ∈ Region.ready .any ops listed, wpOpIn (Rn l) 0 P ops Q i (fun a' w' => (Off d i listed ∨ S w') ∧ wpAnyX l P ops Q S d fuel (listed.setIfInBounds i true) a' w') a w
theorem wpAnyIn_of_X : ∀ (fuel : Nat) (listed : Array Bool) (a : Act) (w : World), wpAnyX l P ops Q S d fuel listed a w → wpAnyIn (Rn l) 0 P .any ops Q fuel listed a w
  | 0, _, _, _, h => h
  | fuel + 1, _, _, _, h => ⟨h.1, fun i hi => wpOpIn_mono (fun a' w' h' => wpAnyIn_of_X fuel _ a' w' h'.2) (h.2 i hi)⟩
theorem getD_set_other {listed : Array Bool} {i d : Nat} (h : i ≠ d) : (listed.setIfInBounds i true).getD d false = listed.getD d false := by
  rw [Array.getD_eq_getD_getElem?, Array.getD_eq_getD_getElem?, Array.getElem?_setIfInBounds_ne h]
theorem Off.set {listed : Array Bool} {i j d : Nat} (h : Off d j listed) : Off d j (listed.setIfInBounds i true) := by
  rcases h with h | h
  · exact .inl h
  · by_cases hi : i = d
    · subst hi
      refine .inr ?_
      rw [Array.getD_eq_getD_getElem?] at h ⊢
      rcases Nat.lt_or_ge i listed.size with hl | hl
      · simp [hl]
      · simp [Array.getElem?_eq_none hl] at h
    · exact .inr (by rw [getD_set_other hi]; exact h)
theorem Off.unset {listed : Array Bool} {i j d : Nat} (hi : i ≠ d) (h : Off d j (listed.setIfInBounds i true)) : Off d j listed := by
  rcases h with h | h
  · exact .inl h
  · exact .inr (by rwa [getD_set_other hi] at h)
/-- What reads the world: while S holds. -/
theorem wpAnyX_first {i : Nat} {oi : Oper} {v : Value} (hnd : noDefer ops = true) (hid : i ≠ d) (hwd : waitsOn ops d i = true) (hi : ops[i]? = some oi) (hsel : ∀ (j : Nat) (o : Oper) cs b, ops[j]? = some o → o.op ≠ .select cs b)
    (hQ : ∀ c a w, Q (.panic c) (a.put oi.dst v) w → Q (.panic c) a w) :
    ∀ (fuel : Nat) (listed : Array Bool) (a : Act) (w : World),
      (∀ j oj, ops[j]? = some oj → j ≠ i → listed.getD j true = false → (∀ e ∈ oj.after, Region.binds .any e = true → e.on ≠ i) → oi.apart ops oj = true) →
      i ∈ Region.ready .any ops listed → YieldsIf P ops S oi v a → S w → listed.getD d false = false →
      wpAnyX l P ops Q S d fuel (listed.setIfInBounds i true) (a.put oi.dst v) w → wpAnyX l P ops Q S d (fuel + 1) listed a w := by
  intro fuel
  induction fuel with
  | zero =>
    intro listed a w _ hr hy hS hd H
    refine ⟨fun h => (by rw [h] at hr; cases hr), fun j hj => ?_⟩
    by_cases hji : j = i
    · subst hji; exact YieldsIf.wpOpR hnd hi hy hS ⟨.inr hS, H⟩
    · have := ready_mono hj hji
      rw [H.1] at this
      cases this
  | succ fuel ih =>
    intro listed a w hfree hr hy hS hd H
    refine ⟨fun h => (by rw [h] at hr; cases hr), fun j hj => ?_⟩
    by_cases hji : j = i
    · subst hji; exact YieldsIf.wpOpR hnd hi hy hS ⟨.inr hS, H⟩
    · have h1 := H.2 j (ready_mono hj hji)
      obtain ⟨hjun, oj, hoj, hall⟩ := mem_ready.1 hj
      have hnot : ∀ e ∈ oj.after, Region.binds .any e = true → e.on ≠ i := fun e he hb heq => by
        have h1 := hall e he hb
        have h0 := (mem_ready.1 hr).1
        rw [heq] at h1
        rcases Nat.lt_or_ge i listed.size with h' | h'
        · simp [h'] at h0 h1; rw [h0] at h1; cases h1
        · simp [Array.getElem?_eq_none h'] at h1
      have h2 := wpOpR_putIf hnd hoj (hfree j oj hoj hji hjun hnot) (fun cs b => hsel i oi cs b hi) (fun cs b => hsel j oj cs b hoj) hQ hy h1
      have hfree' : ∀ k ok, ops[k]? = some ok → k ≠ i → (listed.setIfInBounds j true).getD k true = false →
          (∀ e ∈ ok.after, Region.binds .any e = true → e.on ≠ i) → oi.apart ops ok = true := fun k ok hk hki hun hno => by
        refine hfree k ok hk hki ?_ hno
        by_cases hjk : j = k
        · subst hjk; exact hjun
        · rw [getD_set_ne true hjk] at hun; exact hun
      have hjd : j ≠ d := by
        rintro rfl
        unfold waitsOn at hwd
        rw [hoj] at hwd
        obtain ⟨q, hq, hqb⟩ := List.any_eq_true.1 hwd
        rw [Array.mem_toList_iff] at hq
        rw [Bool.and_eq_true] at hqb
        exact hnot q hq hqb.1 (by simpa using hqb.2)
      have hoff : ¬ Off d j (listed.setIfInBounds i true) := fun h => by
        rcases Off.unset hid h with h | h
        · exact hjd h
        · rw [hd] at h; cases h
      refine wpOpIn_mono (fun a' w' h3 => ⟨.inr (h3.2.1.resolve_left hoff), ih (listed.setIfInBounds j true) a' w' hfree' (ready_mono hr (Ne.symm hji)) h3.1 (h3.2.1.resolve_left hoff) (by rw [getD_set_other hjd]; exact hd) ?_⟩) h2
      rw [Array.setIfInBounds_comm _ _ hji]
      exact h3.2.2
/-- What reads no world. -/
theorem wpAnyX_firstP {i : Nat} {oi : Oper} {v : Value} (hnd : noDefer ops = true) (hid : i ≠ d) (hi : ops[i]? = some oi) (hsel : ∀ (j : Nat) (o : Oper) cs b, ops[j]? = some o → o.op ≠ .select cs b)
    (hQ : ∀ c a w, Q (.panic c) (a.put oi.dst v) w → Q (.panic c) a w) :
    ∀ (fuel : Nat) (listed : Array Bool) (a : Act) (w : World),
      (∀ j oj, ops[j]? = some oj → j ≠ i → listed.getD j true = false → (∀ e ∈ oj.after, Region.binds .any e = true → e.on ≠ i) → oi.apart ops oj = true) →
      i ∈ Region.ready .any ops listed → YieldsIf P ops (fun _ => True) oi v a → (listed.getD d false = true ∨ S w) →
      wpAnyX l P ops Q S d fuel (listed.setIfInBounds i true) (a.put oi.dst v) w → wpAnyX l P ops Q S d (fuel + 1) listed a w := by
  intro fuel
  induction fuel with
  | zero =>
    intro listed a w _ hr hy hS H
    refine ⟨fun h => (by rw [h] at hr; cases hr), fun j hj => ?_⟩
    by_cases hji : j = i
    · subst hji; exact YieldsIf.wpOpR hnd hi hy trivial ⟨hS.imp .inr id, H⟩
    · have := ready_mono hj hji
      rw [H.1] at this
      cases this
  | succ fuel ih =>
    intro listed a w hfree hr hy hS H
    refine ⟨fun h => (by rw [h] at hr; cases hr), fun j hj => ?_⟩
    by_cases hji : j = i
    · subst hji; exact YieldsIf.wpOpR hnd hi hy trivial ⟨hS.imp .inr id, H⟩
    · have h1 := H.2 j (ready_mono hj hji)
      obtain ⟨hjun, oj, hoj, hall⟩ := mem_ready.1 hj
      have hnot : ∀ e ∈ oj.after, Region.binds .any e = true → e.on ≠ i := fun e he hb heq => by
        have h1 := hall e he hb
        have h0 := (mem_ready.1 hr).1
        rw [heq] at h1
        rcases Nat.lt_or_ge i listed.size with h' | h'
        · simp [h'] at h0 h1; rw [h0] at h1; cases h1
        · simp [Array.getElem?_eq_none h'] at h1
      have h2 := wpOpR_putIf hnd hoj (hfree j oj hoj hji hjun hnot) (fun cs b => hsel i oi cs b hi) (fun cs b => hsel j oj cs b hoj) hQ hy h1
      have hfree' : ∀ k ok, ops[k]? = some ok → k ≠ i → (listed.setIfInBounds j true).getD k true = false →
          (∀ e ∈ ok.after, Region.binds .any e = true → e.on ≠ i) → oi.apart ops ok = true := fun k ok hk hki hun hno => by
        refine hfree k ok hk hki ?_ hno
        by_cases hjk : j = k
        · subst hjk; exact hjun
        · rw [getD_set_ne true hjk] at hun; exact hun
      have hjl : j < listed.size := by
        rcases Nat.lt_or_ge j listed.size with h | h
        · exact h
        · rw [Array.getD_eq_getD_getElem?, Array.getElem?_eq_none h] at hjun; simp at hjun
      have hres : ∀ w' : World, (Off d j (listed.setIfInBounds i true) ∨ S w') → Off d j listed ∨ S w' := fun w' h => h.imp (Off.unset hid) id
      refine wpOpIn_mono (fun a' w' h3 => ⟨hres w' h3.2.1, ih (listed.setIfInBounds j true) a' w' hfree' (ready_mono hr (Ne.symm hji)) h3.1 ?_ ?_⟩) h2
      · rcases hres w' h3.2.1 with h | h
        · refine .inl ?_
          rcases h with h | h
          · subst h
            rw [Array.getD_eq_getD_getElem?]
            simp [hjl]
          · exact (Off.set (j := d + 1) (.inr h)).resolve_left (by omega)
        · exact .inr h
      · rw [Array.setIfInBounds_comm _ _ hji]
        exact h3.2.2
theorem wpAnyX_take {i : Nat} {oi : Oper} {v : Value} {fuel : Nat} {listed : Array Bool} {a : Act} {w : World} (hnd : noDefer ops = true) (hid : (i == d) = false) (hwd : waitsOn ops d i = true) (hi : ops[i]? = some oi)
    (hs : Region.noSelect ops = true) (hf : Region.free .any ops listed i = true) (hr : (Region.ready .any ops listed).contains i = true) (hd : listed.getD d false = false)
    (hQ : ∀ c a w, Q (.panic c) (a.put oi.dst v) w → Q (.panic c) a w) (hy : YieldsIf P ops S oi v a) (hS : S w)
    (h : wpAnyX l P ops Q S d fuel (listed.setIfInBounds i true) (a.put oi.dst v) w) : wpAnyX l P ops Q S d (fuel + 1) listed a w :=
  wpAnyX_first hnd (by simpa using hid) hwd hi (Region.noSelect_spec hs) hQ fuel listed a w (Region.free_spec hi hf) (by simpa using hr) hy hS hd h
theorem wpAnyX_pure {i : Nat} {oi : Oper} {v : Value} {fuel : Nat} {listed : Array Bool} {a : Act} {w : World} (hnd : noDefer ops = true) (hid : (i == d) = false) (hi : ops[i]? = some oi)
    (hs : Region.noSelect ops = true) (hf : Region.free .any ops listed i = true) (hr : (Region.ready .any ops listed).contains i = true)
    (hQ : ∀ c a w, Q (.panic c) (a.put oi.dst v) w → Q (.panic c) a w) (hy : YieldsIf P ops (fun _ => True) oi v a) (hS : S w)
    (h : wpAnyX l P ops Q S d fuel (listed.setIfInBounds i true) (a.put oi.dst v) w) : wpAnyX l P ops Q S d (fuel + 1) listed a w :=
  wpAnyX_firstP hnd (by simpa using hid) hi (Region.noSelect_spec hs) hQ fuel listed a w (Region.free_spec hi hf) (by simpa using hr) hy (.inr hS) h
theorem wpAnyX_one {i : Nat} {o : Oper} {fuel : Nat} {listed : Array Bool} {a : Act} {w : World} (hnd : noDefer ops = true) (hr : Region.ready .any ops listed = [i]) (ho : ops[i]? = some o)
    (h : ∀ K' : Act → World → Prop, Shut (∀ a w, (Off d i listed ∨ S w) → wpAnyX l P ops Q S d fuel (listed.setIfInBounds i true) a w → K' a w) → if Region.wanted o (yielded ops a.tmps) = true then Oper.wp P o a w K' Q else K' (a.put o.dst undef) w) :
    wpAnyX l P ops Q S d (fuel + 1) listed a w := by
  refine ⟨fun h0 => (by rw [hr] at h0; cases h0), fun j hj => ?_⟩
  rw [hr] at hj
  obtain rfl := List.mem_singleton.1 hj
  have := h (fun a' w' => (Off d j listed ∨ S w') ∧ wpAnyX l P ops Q S d fuel (listed.setIfInBounds j true) a' w') (fun a w hs hw => ⟨hs, hw⟩)
  unfold Go.wpOpIn
  simp only [ho]
  split
  · rename_i hw; rw [if_pos hw] at this; exact op_in l 0 (noDefer_spec hnd j o ho) this
  · rename_i hw; rw [if_neg hw] at this; exact ⟨fun _ _ => trivial, this⟩
theorem wpAnyX_done {listed : Array Bool} {a : Act} {w : World} (hr : Region.ready .any ops listed = []) (h : Q .normal a w) : ∀ fuel, wpAnyX l P ops Q S d fuel listed a w
  | 0 => ⟨hr, h⟩
  | _ + 1 => ⟨fun _ => h, by rw [hr]; simp⟩
theorem wpIn_region_X (d : Nat) {id : Nat} {a : Act} {w : World} (hm : P.follows .mixedOrders = true) (hS : S w.drew)
    (h : S w.drew → wpAnyX l P ops Q S d ops.size (Array.replicate ops.size false) a w.drew) : (Code.region id ops true).wpIn (Rn l) 0 P Q a w :=
  wpIn_region_any hm (wpAnyIn_of_X _ _ _ _ (h hS))
end
end Go.Proofs.Ytghblnldokpceaa.SeqX
/- slices.SortStableFunc over rows, walked: insertion sort of a part. -/
namespace Go.Proofs.Ytghblnldokpceaa.QV
open Go.RowKit Go.Proofs.YtghblnldokpceaaW.PrintWords Go.Proofs.Ytghblnldokpceaa.SeqW Go.Shelf Go.Proofs.Ytghblnldokpceaa.Op Go.Proofs.Ytghblnldokpceaa.Stab
set_option linter.unusedVariables false
set_option linter.unusedSimpArgs false
abbrev tEl : Nat := 31

/-- A block that holds elements, one behind the other. -/
def El (enc : Nat → Value) (rest : List Value) (g : Nat) (xs : List Nat) (W : World) : Prop := W.heap[g]? = some (.cells (xs.map enc ++ rest).toArray tEl (0, 0))
theorem El.at {enc : Nat → Value} {rest : List Value} {g : Nat} {A B : List Nat} {x : Nat} {W : World} (h : El enc rest g (A ++ x :: B) W) {i : Nat} (hi : A.length = i) : W.cell? ⟨g, i, none⟩ = some (enc x) := by
  subst hi
  rw [blk_cell h]
  simp
theorem El.frozen {enc : Nat → Value} {rest : List Value} {g : Nat} {xs : List Nat} {W : World} (h : El enc rest g xs W) (i : Nat) : W.frozen? ⟨g, i, none⟩ = false := blk_frozen h i
theorem El.set {enc : Nat → Value} {rest : List Value} {g : Nat} {A B : List Nat} {x y : Nat} {W : World} (h : El enc rest g (A ++ x :: B) W) {i : Nat} (hi : A.length = i) : El enc rest g (A ++ y :: B) (W.setCell ⟨g, i, none⟩ (enc y)) := by
  subst hi
  have h2 := blk_set h A.length (enc y)
  refine h2.trans ?_
  simp
theorem El.kept {enc : Nat → Value} {rest : List Value} {g : Nat} {xs : List Nat} {W W' : World} (h : El enc rest g xs W) (hb : Below W.heap.size W W') : El enc rest g xs W' := blk_below h hb
end Go.Proofs.Ytghblnldokpceaa.QV
/- slices.SortStableFunc over rows, walked: rotate. -/
namespace Go.Proofs.Ytghblnldokpceaa.QV
open Go.RowKit Go.Proofs.YtghblnldokpceaaW.PrintWords Go.Proofs.Ytghblnldokpceaa.SeqW Go.Shelf Go.Proofs.Ytghblnldokpceaa.Op Go.Proofs.Ytghblnldokpceaa.Stab
set_option linter.unusedVariables false
set_option linter.unusedSimpArgs false

end Go.Proofs.Ytghblnldokpceaa.QV
/- slices.SortStableFunc over rows, walked: symMerge. -/
namespace Go.Proofs.Ytghblnldokpceaa.QV
open Go.RowKit Go.Proofs.YtghblnldokpceaaW.PrintWords Go.Proofs.Ytghblnldokpceaa.SeqW Go.Shelf Go.Proofs.Ytghblnldokpceaa.Op Go.Proofs.Ytghblnldokpceaa.Stab
set_option linter.unusedVariables false
set_option linter.unusedSimpArgs false

theorem wrapN {k : Nat} (h : k ≤ 9223372036854775807) : IntKind.i64.wrap (k : Int) = (k : Int) := by rw [IntKind.wrap_i64]; omega
end Go.Proofs.Ytghblnldokpceaa.QV
/- slices.BinarySearchFunc over groups. -/
namespace Go.Proofs.Ytghblnldokpceaa.QV
open Go.RowKit Go.Proofs.YtghblnldokpceaaW.PrintWords Go.Proofs.Ytghblnldokpceaa.SeqW Go.Proofs.Ytghblnldokpceaa.SeqX Go.Shelf Go.Proofs.Ytghblnldokpceaa.Op Go.Proofs.Ytghblnldokpceaa.Stab
set_option linter.unusedVariables false
set_option linter.unusedSimpArgs false

/-- A group: its key, its rows; where they lie. -/
structure GE where
  key : Row
  rows : List Row
  ka : Option Addr
  kc : Nat
  ra : Option Addr
  rc : Nat
  tag : Nat
def zGE : GE := ⟨[], [], none, 0, none, 0, 0⟩
def GE.raw (g : GE) : Raw := (.slice g.ka g.key.length g.kc, .slice g.ra g.rows.length g.rc)
theorem GE.one (g : GE) : One g.raw := ⟨rfl, rfl⟩
def ordK (a b : Row) : Int := rowsV (a.map toV) (b.map toV)
theorem preK : Pre ordK := preRows.on (fun x : Row => x.map toV)
/-- What is read of a group's key. -/
def KeyOk (w : World) (g : GE) : Prop := g.key.length ≤ g.kc ∧ kS.C w g.ka g.key.length g.key
set_option maxHeartbeats 1000000 in
theorem cmpGr_any (x : GE) (k : Row) (KB : Option Addr) (kc : Nat) (w : World) (hx : KeyOk w x) (hk : kS.C w KB k.length k) (hkc : k.length ≤ kc) :
    Calls Try.prog 42 #[.agg #[x.raw.1, x.raw.2], .slice KB k.length kc] w fun e w' => e = .returned (.int .i64 (ordK x.key k)) ∧ Below w.heap.size w w' := by
  obtain ⟨xk, xr, ka, kac, ra, rc, tg⟩ := x
  simp only [GE.raw, KeyOk] at hx ⊢
  go_enter Try.func42, Try.ntmps42
  go_wp2_with fail
  obtain ⟨w1, hw1⟩ : ∃ w1, w.alloc (.cells #[.slice ka xk.length kac, .slice ra xr.length rc] 65) = w1 := ⟨_, rfl⟩
  rw [hw1]
  have hb1 : Below w.heap.size w w1 := by rw [← hw1]; exact below_alloc (Below.refl _ _) _
  clear hw1
  have hr := rows_any ka (xk.map toV) kac KB (k.map toV) kc w1 (C_toV (Kd.C_below hx.2 hb1)) (by simpa using hx.1) (C_toV (Kd.C_below hk hb1)) (by simpa using hkc)
  rw [List.length_map, List.length_map] at hr
  refine hr.mono ?_
  rintro e w5 ⟨rfl, hb⟩
  go_wp2
  go_ret
  exact ⟨rfl, hb1.trans (hb.mono hb1.size)⟩
/-- Where the cells of groups lie. -/
def CellsG (w : World) (A : Option Addr) (G : List GE) : Prop := ∀ i, i < G.length → ∃ ad, A = some ad ∧ w.cell? (ad.add (i * 2)) = some (G.getD i zGE).raw.1 ∧ w.cell? ⟨(ad.add (i * 2)).block, (ad.add (i * 2)).off + 1, none⟩ = some (G.getD i zGE).raw.2
def RiseG (G : List GE) : Prop := G.Pairwise (fun x y => ordK x.key y.key < 0)
theorem CellsG.below {w w1 : World} {A : Option Addr} {G : List GE} (h : CellsG w A G) (hb : Below w.heap.size w w1) : CellsG w1 A G := by
  intro i hi
  obtain ⟨ad, e, h1, h2⟩ := h i hi
  exact ⟨ad, e, pw_cell_below hb h1, pw_cell_below hb h2⟩
theorem KeyOk.below {w w1 : World} {g : GE} (h : KeyOk w g) (hb : Below w.heap.size w w1) : KeyOk w1 g := ⟨h.1, Kd.C_below h.2 hb⟩
/-- What the search tells. -/
def SrchG (G : List GE) (k : Row) (w : World) (e : Ending) (w' : World) : Prop := ∃ (i : Nat) (b : Bool), e = .returned (.tuple #[.int .i64 i, .bool b]) ∧ i ≤ G.length ∧ (∀ x ∈ G.take i, ordK x.key k < 0) ∧ (∀ x ∈ G.drop i, 0 ≤ ordK x.key k) ∧ b = decide (i < G.length ∧ ordK (G.getD i zGE).key k = 0) ∧ Below w.heap.size w w'
set_option maxRecDepth 100000 in
set_option maxHeartbeats 8000000 in
theorem searchG_any (A : Option Addr) (G : List GE) (c : Nat) (k : Row) (KB : Option Addr) (kc : Nat) (w : World) (hc : CellsG w A G) (hK : ∀ g ∈ G, KeyOk w g) (hk : kS.C w KB k.length k) (hkc : k.length ≤ kc) (hs : RiseG G) (hn : G.length ≤ 1048576) :
    Calls Try.prog 41 #[.slice A G.length c, .slice KB k.length kc, .func (.func 42) #[] #[]] w (SrchG G k w) := by
  go_enter Try.func41, Try.ntmps41
  go_wp2_with fail
  go_loopw [9, 10] (fun iv jv wr => ∃ (i j : Nat), iv = .int .i64 (i : Int) ∧ jv = .int .i64 (j : Int) ∧ i ≤ j ∧ j ≤ G.length ∧ (∀ x ∈ G.take i, ordK x.key k < 0) ∧ (∀ x ∈ G.drop j, 0 ≤ ordK x.key k) ∧ Below w.heap.size w wr) (fun iv jv _ => (intOf jv).toNat - (intOf iv).toNat)
  case atStart => exact ⟨0, G.length, rfl, rfl, Nat.zero_le _, Nat.le_refl _, by simp, by simp, Below.refl _ _⟩
  case round =>
    obtain ⟨i, j, rfl, rfl, hij, hjn, hF1, hF2, hBw⟩ := hrel
    by_cases hlt : i < j
    · have hlz : (i : Int) < (j : Int) := by omega
      obtain ⟨s, hs0⟩ : ∃ s : Nat, i + j = s := ⟨_, rfl⟩
      obtain ⟨h, hh⟩ : ∃ h : Nat, s / 2 = h := ⟨_, rfl⟩
      have w1' : (i : Int) + (j : Int) = (s : Int) := by omega
      have w2 : IntKind.i64.wrap (s : Int) = (s : Int) := wrapN (by omega)
      have w3 : (s : Int) / 2 = (h : Int) := by omega
      have w4 : (h : Int) < (G.length : Int) := by omega
      have w4' : h < G.length := by omega
      obtain ⟨ad, rfl, q0, q1⟩ := (hc.below hBw) h w4'
      have hd := drop_get zGE G h w4'
      have ht := take_snoc' zGE G h w4'
      have hkx := (hK _ (getD_mem zGE w4')).below hBw
      generalize G.getD h zGE = x at *
      obtain ⟨n, hn'⟩ : ∃ n, ordK x.key k = n := ⟨_, rfl⟩
      have hcc := fun V hV => cmpGr_any x k KB kc V (hkx.below hV) (Kd.C_below (Kd.C_below hk hBw) hV) hkc
      rw [hn'] at hcc
      have HCC := Lib.hid hcc
      clear hcc
      simp only [GE.raw] at q0 q1
      go_wp2_with fail
      refine (HCC.out wr (Below.refl _ _)).mono ?_
      rintro e w5 ⟨rfl, hb5⟩
      have hB5 : Below w.heap.size w w5 := hBw.trans (hb5.mono hBw.size)
      clear HCC
      by_cases hz : n < 0
      · go_wp2_with fail
        go_roundw
        case rel =>
          refine ⟨h + 1, j, by go_num, rfl, by omega, hjn, ?_, hF2, hB5⟩
          rw [← ht]
          intro y hy
          rcases List.mem_append.1 hy with hy | hy
          · have hyx : ordK y.key x.key < 0 := by
              have h9 := hs
              unfold RiseG at h9
              rw [← List.take_append_drop h G, hd] at h9
              exact (List.pairwise_append.1 h9).2.2 y hy x (by simp)
            exact preK.lt_le hyx (by rw [hn']; omega)
          · rw [List.mem_singleton.1 hy, hn']; exact hz
        case measure => simp [intOf]; omega
      · go_wp2_with fail
        go_roundw
        case rel =>
          refine ⟨i, h, rfl, by go_num, by omega, by omega, hF1, ?_, hB5⟩
          rw [hd]
          intro y hy
          rcases List.mem_cons.1 hy with hy | hy
          · rw [hy, hn']; omega
          · have hxy : ordK x.key y.key < 0 := by
              have h9 := List.Pairwise.sublist (List.drop_sublist h G) hs
              rw [hd] at h9
              exact (List.pairwise_cons.1 h9).1 y hy
            refine Classical.byContradiction fun hlt' => ?_
            have := preK.lt_le hxy (show ordK y.key k ≤ 0 by omega)
            omega
        case measure => simp [intOf]; omega
    · obtain rfl : i = j := by omega
      have hlz : ¬ (i : Int) < (i : Int) := by omega
      clear hlt
      by_cases hin : i < G.length
      · have hiz : (i : Int) < (G.length : Int) := by omega
        obtain ⟨ad, rfl, q0, q1⟩ := (hc.below hBw) i hin
        have hkx := (hK _ (getD_mem zGE hin)).below hBw
        obtain ⟨x, hgx⟩ : ∃ x, G.getD i zGE = x := ⟨_, rfl⟩
        rw [hgx] at q0 q1 hkx
        have HGX := Lib.hid hgx
        have HF := Lib.hid (And.intro hF1 hF2)
        clear hgx hF1 hF2
        obtain ⟨n, hn'⟩ : ∃ n, ordK x.key k = n := ⟨_, rfl⟩
        have hcc := fun V hV => cmpGr_any x k KB kc V (hkx.below hV) (Kd.C_below (Kd.C_below hk hBw) hV) hkc
        rw [hn'] at hcc
        have HCC := Lib.hid hcc
        have HN := Lib.hid hn'
        clear hcc hn'
        simp only [GE.raw] at q0 q1
        go_wp2_with fail
        refine (HCC.out wr (Below.refl _ _)).mono ?_
        rintro e w5 ⟨rfl, hb5⟩
        have hB5 : Below w.heap.size w w5 := hBw.trans (hb5.mono hBw.size)
        clear HCC
        obtain ⟨bz, hbz⟩ : ∃ bz : Bool, (n == 0) = bz := ⟨_, rfl⟩
        have hbd : decide (n = 0) = bz := by rw [← hbz]; rfl
        have HBZ := Lib.hid hbz
        go_wp2_with fail
        refine bodyPost_ret (v := .tuple #[.int .i64 i, .bool bz]) (by simp [results, Try.results41, go_sem]; try rfl) rfl ?_
        refine ⟨i, bz, rfl, by omega, HF.out.1, HF.out.2, ?_, hB5⟩
        rw [← HBZ.out, HGX.out, HN.out]
        simp [hin]
        rfl
      · have hiz : ¬ (i : Int) < (G.length : Int) := by omega
        have HF := Lib.hid (And.intro hF1 hF2)
        clear hF1 hF2
        go_wp2_with fail
        refine bodyPost_ret (v := .tuple #[.int .i64 i, .bool false]) (by simp [results, Try.results41, go_sem]; try rfl) rfl ?_
        exact ⟨i, false, rfl, by omega, HF.out.1, HF.out.2, by simp [hin], hBw⟩
end Go.Proofs.Ytghblnldokpceaa.QV
/- slices.MinFunc, slices.MaxFunc over values. -/
namespace Go.Proofs.Ytghblnldokpceaa.QV
open Go.RowKit Go.Proofs.YtghblnldokpceaaW.PrintWords Go.Proofs.Ytghblnldokpceaa.SeqW Go.Proofs.Ytghblnldokpceaa.SeqX Go.Shelf Go.Proofs.Ytghblnldokpceaa.Op Go.Proofs.Ytghblnldokpceaa.Stab
set_option linter.unusedVariables false
set_option linter.unusedSimpArgs false

/-- A value's cells. -/
def cv (v : S') : Array Value := #[.int .i64 v.f0, .bool v.f1, .int .i64 v.f2, .string v.f3]
def set4 (V : World) (g : Nat) (v : S') : World := (((V.setCell ⟨g, 0, none⟩ (.int .i64 v.f0)).setCell ⟨g, 1, none⟩ (.bool v.f1)).setCell ⟨g, 2, none⟩ (.int .i64 v.f2)).setCell ⟨g, 3, none⟩ (.string v.f3)
theorem set4_at {V : World} {g t : Nat} {u v : S'} (h : V.heap[g]? = some (.cells (cv u) t (0, 0))) : (set4 V g v).heap[g]? = some (.cells (cv v) t (0, 0)) := by
  have := blk_set (blk_set (blk_set (blk_set h 0 (.int .i64 v.f0)) 1 (.bool v.f1)) 2 (.int .i64 v.f2)) 3 (.string v.f3)
  simpa [cv, set4] using this
theorem set4_kpt (V : World) (g : Nat) (v : S') : Seq.Kpt (fun i => i = g) V (set4 V g v) := by
  have hk : ∀ (V : World) (j : Nat) (u : Value), Seq.Kpt (fun i => i = g) V (V.setCell ⟨g, j, none⟩ u) := fun V j u => Seq.Kpt.setCell V ⟨g, j, none⟩ u
  exact (((hk _ _ _).trans (hk _ _ _) (fun _ _ h => h.elim id id)).trans (hk _ _ _) (fun _ _ h => h.elim id id)).trans (hk _ _ _) (fun _ _ h => h.elim id id)
theorem set4_below {B : Nat} {w V : World} {g : Nat} {v : S'} (h : Below B w V) (hB : B ≤ V.heap.size) (hg : B ≤ g) : Below B w (set4 V g v) := h.trans ((set4_kpt V g v).below hB (fun i _ e => by rw [e]; exact hg))
theorem cv_cells {V : World} {g : Nat} {v : S'} {t : TypeId} (h : V.heap[g]? = some (.cells (cv v) t (0, 0))) : V.cell? ⟨g, 0, none⟩ = some (.int .i64 v.f0) ∧ V.cell? ⟨g, 1, none⟩ = some (.bool v.f1) ∧ V.cell? ⟨g, 2, none⟩ = some (.int .i64 v.f2) ∧ V.cell? ⟨g, 3, none⟩ = some (.string v.f3) :=
  ⟨blk_cell h 0, blk_cell h 1, blk_cell h 2, blk_cell h 3⟩
theorem cv_frozen {V : World} {g : Nat} {v : S'} {t : TypeId} (h : V.heap[g]? = some (.cells (cv v) t (0, 0))) : V.frozen? ⟨g, 0, none⟩ = false ∧ V.frozen? ⟨g, 1, none⟩ = false ∧ V.frozen? ⟨g, 2, none⟩ = false ∧ V.frozen? ⟨g, 3, none⟩ = false :=
  ⟨blk_frozen h 0, blk_frozen h 1, blk_frozen h 2, blk_frozen h 3⟩
theorem kS_atV {w : World} {A : Option Addr} {xs : Row} (h : kS.C w A xs.length xs) (i : Nat) (hi : i < xs.length) : ∃ ad, A = some ad ∧ w.cell? (ad.add (i * 4)) = some (.int .i64 (xs.getD i zV).f0) ∧ w.cell? ⟨(ad.add (i * 4)).block, (ad.add (i * 4)).off + 1, none⟩ = some (.bool (xs.getD i zV).f1) ∧ w.cell? ⟨(ad.add (i * 4)).block, (ad.add (i * 4)).off + 2, none⟩ = some (.int .i64 (xs.getD i zV).f2) ∧ w.cell? ⟨(ad.add (i * 4)).block, (ad.add (i * 4)).off + 3, none⟩ = some (.string (xs.getD i zV).f3) := by
  obtain ⟨ad, c, e, _, hK, hc0⟩ := Kd.C_get h zV i (by omega) (by omega)
  have hc : ∀ j u, c[j]? = some u → w.cell? (ad.add (i * 4 + j)) = some u := hc0
  obtain rfl := k42_open hK
  exact ⟨ad, e, hc 0 _ rfl, by rw [← add_field _ _ 1 (by omega)]; exact hc 1 _ rfl, by rw [← add_field _ _ 2 (by omega)]; exact hc 2 _ rfl, by rw [← add_field _ _ 3 (by omega)]; exact hc 3 _ rfl⟩

def minV : S' → List S' → S'
  | m, [] => m
  | m, y :: l => if cmpV (toV y) (toV m) < 0 then minV y l else minV m l
set_option maxRecDepth 100000 in
set_option maxHeartbeats 8000000 in
theorem min_any (A : Option Addr) (x : S') (l : List S') (c : Nat) (w : World) (hC : kS.C w A (x :: l).length (x :: l)) (hc : (x :: l).length ≤ c) :
    Calls Try.prog 68 #[.slice A (x :: l).length c, .func (.func 34) #[] #[]] w fun e w' => e = .returned (.agg (cv (minV x l))) ∧ Below w.heap.size w w' := by
  have hml := hC.2.1
  obtain ⟨ad, rfl, q0, q1, q2, q3⟩ := kS_atV hC 0 (by simp)
  have hx0 : (x :: l).getD 0 zV = x := rfl
  rw [hx0, Nat.zero_mul] at q0 q1 q2 q3
  have had : ad.add 0 = ad := by simp [Addr.add]
  rw [had] at q0 q1 q2 q3
  have hln : (x :: l).length = l.length + 1 := rfl
  obtain ⟨n, hn⟩ : ∃ n, (x :: l).length = n := ⟨_, rfl⟩
  have hnl : n = l.length + 1 := by omega
  have h1n : (1 : Int) < (n : Int) + 1 := by omega
  have h1n' : ¬ ((n : Int) < 1) := by omega
  have h0n : (0 : Int) < (n : Int) := by omega
  rw [hn] at hC hc hml ⊢
  have hgd : ∀ i, i < n → ∀ V, Below w.heap.size w V → ∃ y, (x :: l).getD i zV = y ∧ V.cell? (ad.add (i * 4)) = some (.int .i64 y.f0) ∧ V.cell? ⟨(ad.add (i * 4)).block, (ad.add (i * 4)).off + 1, none⟩ = some (.bool y.f1) ∧ V.cell? ⟨(ad.add (i * 4)).block, (ad.add (i * 4)).off + 2, none⟩ = some (.int .i64 y.f2) ∧ V.cell? ⟨(ad.add (i * 4)).block, (ad.add (i * 4)).off + 3, none⟩ = some (.string y.f3) := by
    intro i hi V hV
    obtain ⟨ad', e, r0, r1, r2, r3⟩ := kS_atV (xs := x :: l) (by rw [hn]; exact Kd.C_below hC hV) i (by omega)
    injection e with e
    subst e
    exact ⟨_, rfl, r0, r1, r2, r3⟩
  have HGD := Lib.hid hgd
  have hfin : ∀ i m, i < n → (minV m ((x :: l).drop i) = if cmpV (toV ((x :: l).getD i zV)) (toV m) < 0 then minV ((x :: l).getD i zV) ((x :: l).drop (i + 1)) else minV m ((x :: l).drop (i + 1))) := by
    intro i m hi
    rw [drop_get zV (x :: l) i (by omega), minV]
  have HFIN := Lib.hid hfin
  have hst : minV x ((x :: l).drop 1) = minV x l := rfl
  have HEND := Lib.hid (show (x :: l).drop n = [] from List.drop_of_length_le (by omega))
  clear hgd hfin
  obtain ⟨R, hR⟩ : ∃ R, minV x l = R := ⟨_, rfl⟩
  rw [hR] at hst ⊢
  generalize hL : x :: l = L at *
  have HL := Lib.hid (And.intro hL hR)
  clear hL hx0 hR hn hln hnl hC
  obtain ⟨x0, x1, x2, x3⟩ := x
  go_enter Try.func68, Try.ntmps68
  obtain ⟨w1, hw1⟩ : ∃ w1, w.alloc (.cells (cv zV) 42) = w1 := ⟨_, rfl⟩
  have hb1 : Below w.heap.size w w1 := by rw [← hw1]; exact below_alloc (Below.refl _ _) _
  have g1 : w1.heap[w.heap.size]? = some (.cells (cv zV) 42 (0, 0)) := by rw [← hw1]; exact blk_new _ _
  have hs1 : w1.heap.size = w.heap.size + 1 := by rw [← hw1]; simp
  have hw1' : w.alloc (.cells #[.int .i64 0, .bool false, .int .i64 0, .string ⟨#[]⟩] 42) = w1 := hw1
  clear hw1
  replace q0 := pw_cell_below hb1 q0
  replace q1 := pw_cell_below hb1 q1
  replace q2 := pw_cell_below hb1 q2
  replace q3 := pw_cell_below hb1 q3
  simp only at q0 q1 q2 q3
  go_wp2_with (rw [hw1'])
  obtain ⟨w2, hw2⟩ : ∃ w2, w1.alloc (.cells #[.int .i64 x0, .bool x1, .int .i64 x2, .string x3] 42) = w2 := ⟨_, rfl⟩
  rw [hw2]
  have hb2 : Below w.heap.size w w2 := hb1.trans ((by rw [← hw2]; exact below_alloc (Below.refl _ _) _ : Below w1.heap.size w1 w2).mono hb1.size)
  have g2 : w2.heap[w.heap.size]? = some (.cells (cv zV) 42 (0, 0)) := by rw [← hw2]; exact blk_alloc g1 _
  have m2 : w2.heap[w.heap.size + 1]? = some (.cells (cv ⟨x0, x1, x2, x3⟩) 42 (0, 0)) := by rw [← hw2, ← hs1]; exact blk_new _ _
  clear hw2 q0 q1 q2 q3
  go_loopw [6] (fun iv wr => ∃ (i : Nat) (m : S'), iv = .int .i64 (i : Int) ∧ i ≤ n ∧ minV m (L.drop i) = R ∧ wr.heap[w.heap.size + 1]? = some (.cells (cv m) 42 (0, 0)) ∧ wr.heap[w.heap.size]? = some (.cells (cv zV) 42 (0, 0)) ∧ Below w.heap.size w wr) (fun iv _ => n - (intOf iv).toNat)
  case atStart => exact ⟨1, _, rfl, by omega, hst, m2, g2, hb2⟩
  case round =>
    obtain ⟨i, m, rfl, hi, hf, gm, gz, hB⟩ := hrel
    by_cases hlt : i < n
    · have hlz : (i : Int) < (n : Int) := by omega
      obtain ⟨y, hy, q0, q1, q2, q3⟩ := HGD.out i hlt wr hB
      have hF := HFIN.out i m hlt
      rw [hf, hy] at hF
      have hgy : ∀ V, Below w.heap.size w V → V.cell? (ad.add (i * 4)) = some (.int .i64 y.f0) ∧ V.cell? ⟨(ad.add (i * 4)).block, (ad.add (i * 4)).off + 1, none⟩ = some (.bool y.f1) ∧ V.cell? ⟨(ad.add (i * 4)).block, (ad.add (i * 4)).off + 2, none⟩ = some (.int .i64 y.f2) ∧ V.cell? ⟨(ad.add (i * 4)).block, (ad.add (i * 4)).off + 3, none⟩ = some (.string y.f3) := by
        intro V hV
        obtain ⟨y', hy', r⟩ := HGD.out i hlt V hV
        rw [hy] at hy'
        subst hy'
        exact r
      have HGY := Lib.hid hgy
      clear hgy hy q0 q1 q2 q3
      obtain ⟨y0, y1, y2, y3⟩ := y
      obtain ⟨z0, z1, z2, z3⟩ := m
      have hgmS : ∀ V, Below wr.heap.size wr V → V.cell? ⟨w.heap.size + 1, 0, none⟩ = some (.int .i64 z0) ∧ V.cell? ⟨w.heap.size + 1, 1, none⟩ = some (.bool z1) ∧ V.cell? ⟨w.heap.size + 1, 2, none⟩ = some (.int .i64 z2) ∧ V.cell? ⟨w.heap.size + 1, 3, none⟩ = some (.string z3) := fun V hV => cv_cells (v := ⟨z0, z1, z2, z3⟩) (blk_below gm hV)
      obtain ⟨k, hk⟩ : ∃ k, cmpV (toV ⟨y0, y1, y2, y3⟩) (toV ⟨z0, z1, z2, z3⟩) = k := ⟨_, rfl⟩
      rw [hk] at hF
      have HS := fun V (hV : Below wr.heap.size wr V) => And.intro (HGY.out V (hB.trans (hV.mono hB.size))) (hgmS V hV)
      have HSS := Lib.hid HS
      have HF := Lib.hid hF
      have HK := Lib.hid hk
      clear hF hk HS hgmS
      simp only at HSS
      go_wp2_with fail
      refine (wpIn_wide (n := 0)).1 ?_
      refine wpIn_region_X (l := 0) 8 (S := fun V => (V.cell? (ad.add (i * 4)) = some (.int .i64 y0) ∧ V.cell? ⟨(ad.add (i * 4)).block, (ad.add (i * 4)).off + 1, none⟩ = some (.bool y1) ∧ V.cell? ⟨(ad.add (i * 4)).block, (ad.add (i * 4)).off + 2, none⟩ = some (.int .i64 y2) ∧ V.cell? ⟨(ad.add (i * 4)).block, (ad.add (i * 4)).off + 3, none⟩ = some (.string y3)) ∧ (V.cell? ⟨w.heap.size + 1, 0, none⟩ = some (.int .i64 z0) ∧ V.cell? ⟨w.heap.size + 1, 1, none⟩ = some (.bool z1) ∧ V.cell? ⟨w.heap.size + 1, 2, none⟩ = some (.int .i64 z2) ∧ V.cell? ⟨w.heap.size + 1, 3, none⟩ = some (.string z3))) (by kernel_rfl) (HSS.out _ (below_drew (Below.refl _ _))) (fun hS0 => ?_)
      refine wpAnyX_pure (i := 0) (oi := ⟨some 20, _, _, _, _, _⟩) (v := ?_) (by kernel_rfl) (by kernel_rfl) rfl (by kernel_rfl) (by kernel_rfl) (by kernel_rfl) (fun _ _ _ h => h) (Or.inl ⟨by rfl, ?_⟩) (by assumption) ?_
      rotate_left
      · intro w _; go_simp; (try (with_reducible rfl))
      (try simp only [Act.put, List.setIfInBounds_toArray, List.set_cons_zero, List.set_cons_succ])
      refine wpAnyX_pure (i := 1) (oi := ⟨some 21, _, _, _, _, _⟩) (v := ?_) (by kernel_rfl) (by kernel_rfl) rfl (by kernel_rfl) (by kernel_rfl) (by kernel_rfl) (fun _ _ _ h => h) (Or.inl ⟨by rfl, ?_⟩) (by assumption) ?_
      rotate_left
      · intro w _; go_simp; (try (with_reducible rfl))
      (try simp only [Act.put, List.setIfInBounds_toArray, List.set_cons_zero, List.set_cons_succ])
      refine wpAnyX_pure (i := 2) (oi := ⟨some 22, _, _, _, _, _⟩) (v := ?_) (by kernel_rfl) (by kernel_rfl) rfl (by kernel_rfl) (by kernel_rfl) (by kernel_rfl) (fun _ _ _ h => h) (Or.inl ⟨by rfl, ?_⟩) (by assumption) ?_
      rotate_left
      · intro w _; go_simp; (try (with_reducible rfl))
      (try simp only [Act.put, List.setIfInBounds_toArray, List.set_cons_zero, List.set_cons_succ])
      refine wpAnyX_pure (i := 3) (oi := ⟨some 23, _, _, _, _, _⟩) (v := ?_) (by kernel_rfl) (by kernel_rfl) rfl (by kernel_rfl) (by kernel_rfl) (by kernel_rfl) (fun _ _ _ h => h) (Or.inl ⟨by rfl, ?_⟩) (by assumption) ?_
      rotate_left
      · intro w _; go_simp; (try (with_reducible rfl))
      (try simp only [Act.put, List.setIfInBounds_toArray, List.set_cons_zero, List.set_cons_succ])
      refine wpAnyX_take (i := 4) (oi := ⟨some 24, _, _, _, _, _⟩) (v := ?_) (by kernel_rfl) (by kernel_rfl) (by kernel_rfl) rfl (by kernel_rfl) (by kernel_rfl) (by kernel_rfl) (by kernel_rfl) (fun _ _ _ h => h) (Or.inl ⟨by rfl, ?_⟩) (by assumption) ?_
      rotate_left
      · intro w hSw; (try dsimp only at hSw); (try go_split_ands); go_simp; (try (with_reducible rfl))
      (try simp only [Act.put, List.setIfInBounds_toArray, List.set_cons_zero, List.set_cons_succ])
      refine wpAnyX_take (i := 5) (oi := ⟨some 25, _, _, _, _, _⟩) (v := ?_) (by kernel_rfl) (by kernel_rfl) (by kernel_rfl) rfl (by kernel_rfl) (by kernel_rfl) (by kernel_rfl) (by kernel_rfl) (fun _ _ _ h => h) (Or.inl ⟨by rfl, ?_⟩) (by assumption) ?_
      rotate_left
      · intro w hSw; (try dsimp only at hSw); (try go_split_ands); go_simp; (try (with_reducible rfl))
      (try simp only [Act.put, List.setIfInBounds_toArray, List.set_cons_zero, List.set_cons_succ])
      refine wpAnyX_one (i := 6) (o := ⟨some 26, _, _, _, _, _⟩) (by kernel_rfl) (by kernel_rfl) rfl (fun K hK => ?_)
      go_simp
      refine (value_Compare.calls y0 y1 y2 y3 z0 z1 z2 z3 k wr.drew (by rw [← HK.out]; rfl)).mono ?_
      rintro e w5 ⟨rfl, hb5⟩
      have hb5' : Below wr.heap.size wr w5 := (below_drew (Below.refl _ wr)).trans hb5
      have hB5 : Below w.heap.size w w5 := hB.trans (hb5'.mono hB.size)
      have hS5 := HSS.out w5 hb5'
      have gm5 := blk_below gm hb5'
      have gz5 := blk_below gz hb5'
      (try dsimp only)
      refine hK.out _ _ (.inr hS5) ?_
      clear hK K
      (try simp only [Act.put, List.setIfInBounds_toArray, List.set_cons_zero, List.set_cons_succ])
      by_cases hz : k < 0
      ·
        refine wpAnyX_pure (i := 7) (oi := ⟨some 27, _, _, _, _, _⟩) (v := ?_) (by kernel_rfl) (by kernel_rfl) rfl (by kernel_rfl) (by kernel_rfl) (by kernel_rfl) (fun _ _ _ h => h) (Or.inl ⟨by rfl, ?_⟩) (by assumption) ?_
        rotate_left
        · intro w _; go_simp; (try (with_reducible rfl))
        (try simp only [Act.put, List.setIfInBounds_toArray, List.set_cons_zero, List.set_cons_succ])
        refine wpAnyX_done (by kernel_rfl) ?_ _
        obtain ⟨⟨q0, q1, q2, q3⟩, _⟩ := hS5
        obtain ⟨c0, c1, c2, c3⟩ := cv_cells gm5
        obtain ⟨f0, f1, f2, f3⟩ := cv_frozen gm5
        simp only at c0 c1 c2 c3
        clear hS0
        go_wp2
        have hset : (((w5.setCell ⟨w.heap.size + 1, 0, none⟩ (.int .i64 y0)).setCell ⟨w.heap.size + 1, 1, none⟩ (.bool y1)).setCell ⟨w.heap.size + 1, 2, none⟩ (.int .i64 y2)).setCell ⟨w.heap.size + 1, 3, none⟩ (.string y3) = set4 w5 (w.heap.size + 1) ⟨y0, y1, y2, y3⟩ := rfl
        rw [hset]
        go_roundw
        case rel =>
          refine ⟨i + 1, ⟨y0, y1, y2, y3⟩, by go_num, by omega, ?_, set4_at gm5, (set4_kpt _ _ _).at gz5 (by omega), set4_below hB5 (by have := hB5.size; omega) (by omega)⟩
          rw [HF.out, if_pos hz]
        case measure => simp [intOf]; omega
      ·
        refine wpAnyX_pure (i := 7) (oi := ⟨some 27, _, _, _, _, _⟩) (v := ?_) (by kernel_rfl) (by kernel_rfl) rfl (by kernel_rfl) (by kernel_rfl) (by kernel_rfl) (fun _ _ _ h => h) (Or.inl ⟨by rfl, ?_⟩) (by assumption) ?_
        rotate_left
        · intro w _; go_simp; (try (with_reducible rfl))
        (try simp only [Act.put, List.setIfInBounds_toArray, List.set_cons_zero, List.set_cons_succ])
        refine wpAnyX_done (by kernel_rfl) ?_ _
        clear hS5 hS0
        go_wp2
        go_roundw
        case rel =>
          refine ⟨i + 1, ⟨z0, z1, z2, z3⟩, by go_num, by omega, ?_, gm5, gz5, hB5⟩
          rw [HF.out, if_neg hz]
        case measure => simp [intOf]; omega
    · obtain rfl : i = n := by omega
      have hlz : ¬ (i : Int) < (i : Int) := by omega
      rw [HEND.out, minV] at hf
      subst hf
      obtain ⟨c0, c1, c2, c3⟩ := cv_cells gm
      obtain ⟨d0, d1, d2, d3⟩ := cv_cells gz
      obtain ⟨f0, f1, f2, f3⟩ := cv_frozen gz
      obtain ⟨z0, z1, z2, z3⟩ := m
      simp only at c0 c1 c2 c3
      go_wp2
      refine bodyPost_ret (results_cell_row rfl _ _ w.heap.size 42 (cv ⟨z0, z1, z2, z3⟩) (0, 0) _ rfl (set4_at (v := ⟨z0, z1, z2, z3⟩) gz) Try.underlying42 rfl rfl) rfl ?_
      exact ⟨rfl, set4_below (v := ⟨z0, z1, z2, z3⟩) hB hB.size (Nat.le_refl _)⟩

def maxV : S' → List S' → S'
  | m, [] => m
  | m, y :: l => if 0 < cmpV (toV y) (toV m) then maxV y l else maxV m l
set_option maxRecDepth 100000 in
set_option maxHeartbeats 8000000 in
theorem max_any (A : Option Addr) (x : S') (l : List S') (c : Nat) (w : World) (hC : kS.C w A (x :: l).length (x :: l)) (hc : (x :: l).length ≤ c) :
    Calls Try.prog 69 #[.slice A (x :: l).length c, .func (.func 34) #[] #[]] w fun e w' => e = .returned (.agg (cv (maxV x l))) ∧ Below w.heap.size w w' := by
  have hml := hC.2.1
  obtain ⟨ad, rfl, q0, q1, q2, q3⟩ := kS_atV hC 0 (by simp)
  have hx0 : (x :: l).getD 0 zV = x := rfl
  rw [hx0, Nat.zero_mul] at q0 q1 q2 q3
  have had : ad.add 0 = ad := by simp [Addr.add]
  rw [had] at q0 q1 q2 q3
  have hln : (x :: l).length = l.length + 1 := rfl
  obtain ⟨n, hn⟩ : ∃ n, (x :: l).length = n := ⟨_, rfl⟩
  have hnl : n = l.length + 1 := by omega
  have h1n : (1 : Int) < (n : Int) + 1 := by omega
  have h1n' : ¬ ((n : Int) < 1) := by omega
  have h0n : (0 : Int) < (n : Int) := by omega
  rw [hn] at hC hc hml ⊢
  have hgd : ∀ i, i < n → ∀ V, Below w.heap.size w V → ∃ y, (x :: l).getD i zV = y ∧ V.cell? (ad.add (i * 4)) = some (.int .i64 y.f0) ∧ V.cell? ⟨(ad.add (i * 4)).block, (ad.add (i * 4)).off + 1, none⟩ = some (.bool y.f1) ∧ V.cell? ⟨(ad.add (i * 4)).block, (ad.add (i * 4)).off + 2, none⟩ = some (.int .i64 y.f2) ∧ V.cell? ⟨(ad.add (i * 4)).block, (ad.add (i * 4)).off + 3, none⟩ = some (.string y.f3) := by
    intro i hi V hV
    obtain ⟨ad', e, r0, r1, r2, r3⟩ := kS_atV (xs := x :: l) (by rw [hn]; exact Kd.C_below hC hV) i (by omega)
    injection e with e
    subst e
    exact ⟨_, rfl, r0, r1, r2, r3⟩
  have HGD := Lib.hid hgd
  have hfin : ∀ i m, i < n → (maxV m ((x :: l).drop i) = if 0 < cmpV (toV ((x :: l).getD i zV)) (toV m) then maxV ((x :: l).getD i zV) ((x :: l).drop (i + 1)) else maxV m ((x :: l).drop (i + 1))) := by
    intro i m hi
    rw [drop_get zV (x :: l) i (by omega), maxV]
  have HFIN := Lib.hid hfin
  have hst : maxV x ((x :: l).drop 1) = maxV x l := rfl
  have HEND := Lib.hid (show (x :: l).drop n = [] from List.drop_of_length_le (by omega))
  clear hgd hfin
  obtain ⟨R, hR⟩ : ∃ R, maxV x l = R := ⟨_, rfl⟩
  rw [hR] at hst ⊢
  generalize hL : x :: l = L at *
  have HL := Lib.hid (And.intro hL hR)
  clear hL hx0 hR hn hln hnl hC
  obtain ⟨x0, x1, x2, x3⟩ := x
  go_enter Try.func69, Try.ntmps69
  obtain ⟨w1, hw1⟩ : ∃ w1, w.alloc (.cells (cv zV) 42) = w1 := ⟨_, rfl⟩
  have hb1 : Below w.heap.size w w1 := by rw [← hw1]; exact below_alloc (Below.refl _ _) _
  have g1 : w1.heap[w.heap.size]? = some (.cells (cv zV) 42 (0, 0)) := by rw [← hw1]; exact blk_new _ _
  have hs1 : w1.heap.size = w.heap.size + 1 := by rw [← hw1]; simp
  have hw1' : w.alloc (.cells #[.int .i64 0, .bool false, .int .i64 0, .string ⟨#[]⟩] 42) = w1 := hw1
  clear hw1
  replace q0 := pw_cell_below hb1 q0
  replace q1 := pw_cell_below hb1 q1
  replace q2 := pw_cell_below hb1 q2
  replace q3 := pw_cell_below hb1 q3
  simp only at q0 q1 q2 q3
  go_wp2_with (rw [hw1'])
  obtain ⟨w2, hw2⟩ : ∃ w2, w1.alloc (.cells #[.int .i64 x0, .bool x1, .int .i64 x2, .string x3] 42) = w2 := ⟨_, rfl⟩
  rw [hw2]
  have hb2 : Below w.heap.size w w2 := hb1.trans ((by rw [← hw2]; exact below_alloc (Below.refl _ _) _ : Below w1.heap.size w1 w2).mono hb1.size)
  have g2 : w2.heap[w.heap.size]? = some (.cells (cv zV) 42 (0, 0)) := by rw [← hw2]; exact blk_alloc g1 _
  have m2 : w2.heap[w.heap.size + 1]? = some (.cells (cv ⟨x0, x1, x2, x3⟩) 42 (0, 0)) := by rw [← hw2, ← hs1]; exact blk_new _ _
  clear hw2 q0 q1 q2 q3
  go_loopw [6] (fun iv wr => ∃ (i : Nat) (m : S'), iv = .int .i64 (i : Int) ∧ i ≤ n ∧ maxV m (L.drop i) = R ∧ wr.heap[w.heap.size + 1]? = some (.cells (cv m) 42 (0, 0)) ∧ wr.heap[w.heap.size]? = some (.cells (cv zV) 42 (0, 0)) ∧ Below w.heap.size w wr) (fun iv _ => n - (intOf iv).toNat)
  case atStart => exact ⟨1, _, rfl, by omega, hst, m2, g2, hb2⟩
  case round =>
    obtain ⟨i, m, rfl, hi, hf, gm, gz, hB⟩ := hrel
    by_cases hlt : i < n
    · have hlz : (i : Int) < (n : Int) := by omega
      obtain ⟨y, hy, q0, q1, q2, q3⟩ := HGD.out i hlt wr hB
      have hF := HFIN.out i m hlt
      rw [hf, hy] at hF
      have hgy : ∀ V, Below w.heap.size w V → V.cell? (ad.add (i * 4)) = some (.int .i64 y.f0) ∧ V.cell? ⟨(ad.add (i * 4)).block, (ad.add (i * 4)).off + 1, none⟩ = some (.bool y.f1) ∧ V.cell? ⟨(ad.add (i * 4)).block, (ad.add (i * 4)).off + 2, none⟩ = some (.int .i64 y.f2) ∧ V.cell? ⟨(ad.add (i * 4)).block, (ad.add (i * 4)).off + 3, none⟩ = some (.string y.f3) := by
        intro V hV
        obtain ⟨y', hy', r⟩ := HGD.out i hlt V hV
        rw [hy] at hy'
        subst hy'
        exact r
      have HGY := Lib.hid hgy
      clear hgy hy q0 q1 q2 q3
      obtain ⟨y0, y1, y2, y3⟩ := y
      obtain ⟨z0, z1, z2, z3⟩ := m
      have hgmS : ∀ V, Below wr.heap.size wr V → V.cell? ⟨w.heap.size + 1, 0, none⟩ = some (.int .i64 z0) ∧ V.cell? ⟨w.heap.size + 1, 1, none⟩ = some (.bool z1) ∧ V.cell? ⟨w.heap.size + 1, 2, none⟩ = some (.int .i64 z2) ∧ V.cell? ⟨w.heap.size + 1, 3, none⟩ = some (.string z3) := fun V hV => cv_cells (v := ⟨z0, z1, z2, z3⟩) (blk_below gm hV)
      obtain ⟨k, hk⟩ : ∃ k, cmpV (toV ⟨y0, y1, y2, y3⟩) (toV ⟨z0, z1, z2, z3⟩) = k := ⟨_, rfl⟩
      rw [hk] at hF
      have HS := fun V (hV : Below wr.heap.size wr V) => And.intro (HGY.out V (hB.trans (hV.mono hB.size))) (hgmS V hV)
      have HSS := Lib.hid HS
      have HF := Lib.hid hF
      have HK := Lib.hid hk
      clear hF hk HS hgmS
      simp only at HSS
      go_wp2_with fail
      refine (wpIn_wide (n := 0)).1 ?_
      refine wpIn_region_X (l := 0) 8 (S := fun V => (V.cell? (ad.add (i * 4)) = some (.int .i64 y0) ∧ V.cell? ⟨(ad.add (i * 4)).block, (ad.add (i * 4)).off + 1, none⟩ = some (.bool y1) ∧ V.cell? ⟨(ad.add (i * 4)).block, (ad.add (i * 4)).off + 2, none⟩ = some (.int .i64 y2) ∧ V.cell? ⟨(ad.add (i * 4)).block, (ad.add (i * 4)).off + 3, none⟩ = some (.string y3)) ∧ (V.cell? ⟨w.heap.size + 1, 0, none⟩ = some (.int .i64 z0) ∧ V.cell? ⟨w.heap.size + 1, 1, none⟩ = some (.bool z1) ∧ V.cell? ⟨w.heap.size + 1, 2, none⟩ = some (.int .i64 z2) ∧ V.cell? ⟨w.heap.size + 1, 3, none⟩ = some (.string z3))) (by kernel_rfl) (HSS.out _ (below_drew (Below.refl _ _))) (fun hS0 => ?_)
      refine wpAnyX_pure (i := 0) (oi := ⟨some 20, _, _, _, _, _⟩) (v := ?_) (by kernel_rfl) (by kernel_rfl) rfl (by kernel_rfl) (by kernel_rfl) (by kernel_rfl) (fun _ _ _ h => h) (Or.inl ⟨by rfl, ?_⟩) (by assumption) ?_
      rotate_left
      · intro w _; go_simp; (try (with_reducible rfl))
      (try simp only [Act.put, List.setIfInBounds_toArray, List.set_cons_zero, List.set_cons_succ])
      refine wpAnyX_pure (i := 1) (oi := ⟨some 21, _, _, _, _, _⟩) (v := ?_) (by kernel_rfl) (by kernel_rfl) rfl (by kernel_rfl) (by kernel_rfl) (by kernel_rfl) (fun _ _ _ h => h) (Or.inl ⟨by rfl, ?_⟩) (by assumption) ?_
      rotate_left
      · intro w _; go_simp; (try (with_reducible rfl))
      (try simp only [Act.put, List.setIfInBounds_toArray, List.set_cons_zero, List.set_cons_succ])
      refine wpAnyX_pure (i := 2) (oi := ⟨some 22, _, _, _, _, _⟩) (v := ?_) (by kernel_rfl) (by kernel_rfl) rfl (by kernel_rfl) (by kernel_rfl) (by kernel_rfl) (fun _ _ _ h => h) (Or.inl ⟨by rfl, ?_⟩) (by assumption) ?_
      rotate_left
      · intro w _; go_simp; (try (with_reducible rfl))
      (try simp only [Act.put, List.setIfInBounds_toArray, List.set_cons_zero, List.set_cons_succ])
      refine wpAnyX_pure (i := 3) (oi := ⟨some 23, _, _, _, _, _⟩) (v := ?_) (by kernel_rfl) (by kernel_rfl) rfl (by kernel_rfl) (by kernel_rfl) (by kernel_rfl) (fun _ _ _ h => h) (Or.inl ⟨by rfl, ?_⟩) (by assumption) ?_
      rotate_left
      · intro w _; go_simp; (try (with_reducible rfl))
      (try simp only [Act.put, List.setIfInBounds_toArray, List.set_cons_zero, List.set_cons_succ])
      refine wpAnyX_take (i := 4) (oi := ⟨some 24, _, _, _, _, _⟩) (v := ?_) (by kernel_rfl) (by kernel_rfl) (by kernel_rfl) rfl (by kernel_rfl) (by kernel_rfl) (by kernel_rfl) (by kernel_rfl) (fun _ _ _ h => h) (Or.inl ⟨by rfl, ?_⟩) (by assumption) ?_
      rotate_left
      · intro w hSw; (try dsimp only at hSw); (try go_split_ands); go_simp; (try (with_reducible rfl))
      (try simp only [Act.put, List.setIfInBounds_toArray, List.set_cons_zero, List.set_cons_succ])
      refine wpAnyX_take (i := 5) (oi := ⟨some 25, _, _, _, _, _⟩) (v := ?_) (by kernel_rfl) (by kernel_rfl) (by kernel_rfl) rfl (by kernel_rfl) (by kernel_rfl) (by kernel_rfl) (by kernel_rfl) (fun _ _ _ h => h) (Or.inl ⟨by rfl, ?_⟩) (by assumption) ?_
      rotate_left
      · intro w hSw; (try dsimp only at hSw); (try go_split_ands); go_simp; (try (with_reducible rfl))
      (try simp only [Act.put, List.setIfInBounds_toArray, List.set_cons_zero, List.set_cons_succ])
      refine wpAnyX_one (i := 6) (o := ⟨some 26, _, _, _, _, _⟩) (by kernel_rfl) (by kernel_rfl) rfl (fun K hK => ?_)
      go_simp
      refine (value_Compare.calls y0 y1 y2 y3 z0 z1 z2 z3 k wr.drew (by rw [← HK.out]; rfl)).mono ?_
      rintro e w5 ⟨rfl, hb5⟩
      have hb5' : Below wr.heap.size wr w5 := (below_drew (Below.refl _ wr)).trans hb5
      have hB5 : Below w.heap.size w w5 := hB.trans (hb5'.mono hB.size)
      have hS5 := HSS.out w5 hb5'
      have gm5 := blk_below gm hb5'
      have gz5 := blk_below gz hb5'
      (try dsimp only)
      refine hK.out _ _ (.inr hS5) ?_
      clear hK K
      (try simp only [Act.put, List.setIfInBounds_toArray, List.set_cons_zero, List.set_cons_succ])
      by_cases hz : 0 < k
      ·
        refine wpAnyX_pure (i := 7) (oi := ⟨some 27, _, _, _, _, _⟩) (v := ?_) (by kernel_rfl) (by kernel_rfl) rfl (by kernel_rfl) (by kernel_rfl) (by kernel_rfl) (fun _ _ _ h => h) (Or.inl ⟨by rfl, ?_⟩) (by assumption) ?_
        rotate_left
        · intro w _; go_simp; (try (with_reducible rfl))
        (try simp only [Act.put, List.setIfInBounds_toArray, List.set_cons_zero, List.set_cons_succ])
        refine wpAnyX_done (by kernel_rfl) ?_ _
        obtain ⟨⟨q0, q1, q2, q3⟩, _⟩ := hS5
        obtain ⟨c0, c1, c2, c3⟩ := cv_cells gm5
        obtain ⟨f0, f1, f2, f3⟩ := cv_frozen gm5
        simp only at c0 c1 c2 c3
        clear hS0
        go_wp2
        have hset : (((w5.setCell ⟨w.heap.size + 1, 0, none⟩ (.int .i64 y0)).setCell ⟨w.heap.size + 1, 1, none⟩ (.bool y1)).setCell ⟨w.heap.size + 1, 2, none⟩ (.int .i64 y2)).setCell ⟨w.heap.size + 1, 3, none⟩ (.string y3) = set4 w5 (w.heap.size + 1) ⟨y0, y1, y2, y3⟩ := rfl
        rw [hset]
        go_roundw
        case rel =>
          refine ⟨i + 1, ⟨y0, y1, y2, y3⟩, by go_num, by omega, ?_, set4_at gm5, (set4_kpt _ _ _).at gz5 (by omega), set4_below hB5 (by have := hB5.size; omega) (by omega)⟩
          rw [HF.out, if_pos hz]
        case measure => simp [intOf]; omega
      ·
        refine wpAnyX_pure (i := 7) (oi := ⟨some 27, _, _, _, _, _⟩) (v := ?_) (by kernel_rfl) (by kernel_rfl) rfl (by kernel_rfl) (by kernel_rfl) (by kernel_rfl) (fun _ _ _ h => h) (Or.inl ⟨by rfl, ?_⟩) (by assumption) ?_
        rotate_left
        · intro w _; go_simp; (try (with_reducible rfl))
        (try simp only [Act.put, List.setIfInBounds_toArray, List.set_cons_zero, List.set_cons_succ])
        refine wpAnyX_done (by kernel_rfl) ?_ _
        clear hS5 hS0
        go_wp2
        go_roundw
        case rel =>
          refine ⟨i + 1, ⟨z0, z1, z2, z3⟩, by go_num, by omega, ?_, gm5, gz5, hB5⟩
          rw [HF.out, if_neg hz]
        case measure => simp [intOf]; omega
    · obtain rfl : i = n := by omega
      have hlz : ¬ (i : Int) < (i : Int) := by omega
      rw [HEND.out, maxV] at hf
      subst hf
      obtain ⟨c0, c1, c2, c3⟩ := cv_cells gm
      obtain ⟨d0, d1, d2, d3⟩ := cv_cells gz
      obtain ⟨f0, f1, f2, f3⟩ := cv_frozen gz
      obtain ⟨z0, z1, z2, z3⟩ := m
      simp only at c0 c1 c2 c3
      go_wp2
      refine bodyPost_ret (results_cell_row rfl _ _ w.heap.size 42 (cv ⟨z0, z1, z2, z3⟩) (0, 0) _ rfl (set4_at (v := ⟨z0, z1, z2, z3⟩) gz) Try.underlying42 rfl rfl) rfl ?_
      exact ⟨rfl, set4_below (v := ⟨z0, z1, z2, z3⟩) hB hB.size (Nat.le_refl _)⟩
end Go.Proofs.Ytghblnldokpceaa.QV
/- The plain laws of exec.picked, hayloftref15.Pick, Project and Filter. -/
namespace Go.Proofs.Ytghblnldokpceaa.QV
open Go.RowKit Go.Proofs.YtghblnldokpceaaW.PrintWords Go.Proofs.Ytghblnldokpceaa.Op
set_option linter.unusedVariables false
set_option linter.unusedSimpArgs false
def pickS (x : Row) (cs : List Int) : Row := cs.map (atS x)
theorem picked_loop (x : Row) (cs : List Int) (hm : cs.length < 3518437208883) : ∀ (d i : Nat), i + d = cs.length → Ev (fun k => exec_picked.l0 k x (pickS x (cs.take i)) cs (cs.length : Int) (i : Int)) (pickS x cs) := by
  intro d
  induction d with
  | zero =>
    intro i hi
    refine Ev.step (f := fun _ => some (pickS x cs)) (fun k => ?_) (Ev.now _)
    simp only [exec_picked.l0]
    rw [if_neg (by omega), List.take_of_length_le (by omega)]
  | succ d ih =>
    intro i hi
    have hw : wrap64 ((i : Int) + 1) = ((i + 1 : Nat) : Int) := by unfold wrap64; omega
    have hra : rd cs (i : Int) = cs.getD i 0 := rfl
    have hts := take_snoc' (0 : Int) cs i (by omega)
    have hp : pickS x (cs.take i) ++ [atS x (cs.getD i 0)] = pickS x (cs.take (i + 1)) := by rw [← hts]; simp [pickS]
    have hl : (pickS x (cs.take i)).length = i := by simp [pickS]; omega
    refine Ev.step (fun k => ?_) (ih (i + 1) (by omega))
    simp only [exec_picked.l0, hra, hw, at_f, Option.bind_some]
    rw [if_pos (by omega), if_pos (by omega), if_pos (by omega), if_pos (by omega), ← hp]
theorem picked_f (x : Row) (cs : List Int) (hm : cs.length < 3518437208883) : ∃ k, exec_picked.f k x cs = some (pickS x cs) := by
  have h := picked_loop x cs hm cs.length 0 (by omega)
  exact h.rounds
theorem pick_loop (x : Row) (cs : List Int) (hm : cs.length < 3518437208883) : ∀ (d i : Nat), i + d = cs.length → Ev (fun k => hayloftref15_Pick.l0 k x cs (pickS x (cs.take i)) (i : Int)) (pickS x cs) := by
  intro d
  induction d with
  | zero =>
    intro i hi
    refine Ev.step (f := fun _ => some (pickS x cs)) (fun k => ?_) (Ev.now _)
    simp only [hayloftref15_Pick.l0]
    rw [if_neg (by omega), List.take_of_length_le (by omega)]
  | succ d ih =>
    intro i hi
    have hw : wrap64 ((i : Int) + 1) = ((i + 1 : Nat) : Int) := by unfold wrap64; omega
    have hra : rd cs (i : Int) = cs.getD i 0 := rfl
    have hts := take_snoc' (0 : Int) cs i (by omega)
    have hp : pickS x (cs.take i) ++ [atS x (cs.getD i 0)] = pickS x (cs.take (i + 1)) := by rw [← hts]; simp [pickS]
    have hl : (pickS x (cs.take i)).length = i := by simp [pickS]; omega
    refine Ev.step (fun k => ?_) (ih (i + 1) (by omega))
    simp only [hayloftref15_Pick.l0, hra, hw, refAt_f, Option.bind_some]
    rw [if_pos (by omega), if_pos (by omega), if_pos (by omega), ← hp]
theorem pick_f (x : Row) (cs : List Int) (hm : cs.length < 3518437208883) : Ev (fun k => hayloftref15_Pick.f k x cs) (pickS x cs) := pick_loop x cs hm cs.length 0 (by omega)
end Go.Proofs.Ytghblnldokpceaa.QV
/- Groups, in plain Lean: what exec.Group gathers, and what is told of a group; that it is the document's. -/
namespace Go.Proofs.Ytghblnldokpceaa.QV
open Go.RowKit Go.Proofs.YtghblnldokpceaaW.PrintWords Go.Proofs.Ytghblnldokpceaa.Op Go.Proofs.Ytghblnldokpceaa.Stab
set_option linter.unusedVariables false
set_option linter.unusedSimpArgs false
abbrev Ag : Type := S48
abbrev Grp : Type := Row × List Row
def addG : List Grp → Row → Row → List Grp
  | [], k, r => [(k, [r])]
  | g :: G, k, r => if ordK g.1 k < 0 then g :: addG G k r else if ordK g.1 k = 0 then (g.1, g.2 ++ [r]) :: G else (k, [r]) :: g :: G
def insK : List Row → Row → List Row
  | [], k => [k]
  | h :: t, k => if ordK h k < 0 then h :: insK t k else if ordK h k = 0 then h :: t else k :: h :: t
theorem addG_keys : ∀ (G : List Grp) (k r : Row), (addG G k r).map (·.1) = insK (G.map (·.1)) k
  | [], _, _ => rfl
  | g :: G, k, r => by
    rw [addG, List.map_cons, insK]
    split
    · rw [List.map_cons, addG_keys G k r]
    · split <;> simp
def RiseK (K : List Row) : Prop := K.Pairwise (fun x y => ordK x y < 0)
theorem insK_mem : ∀ {K : List Row} {k x : Row}, x ∈ insK K k → x = k ∨ x ∈ K
  | [], k, x, h => by simp [insK] at h; exact .inl h
  | h0 :: t, k, x, h => by
    rw [insK] at h
    split at h
    · rcases List.mem_cons.1 h with h | h
      · exact .inr (by simp [h])
      · rcases insK_mem h with h | h
        · exact .inl h
        · exact .inr (by simp [h])
    · split at h
      · exact .inr h
      · rcases List.mem_cons.1 h with h | h
        · exact .inl h
        · exact .inr h
theorem insK_rise : ∀ {K : List Row} {k : Row}, RiseK K → RiseK (insK K k)
  | [], k, _ => by simp [insK, RiseK]
  | h0 :: t, k, h => by
    obtain ⟨h1, h2⟩ := List.pairwise_cons.1 h
    rw [insK]
    split
    · rename_i hlt
      refine List.pairwise_cons.2 ⟨fun y hy => ?_, insK_rise h2⟩
      rcases insK_mem hy with rfl | hy
      · exact hlt
      · exact h1 y hy
    · split
      · exact h
      · rename_i hn hz
        have hk : ordK k h0 < 0 := by
          have := preK.swap k h0; have := preK.swap h0 k; omega
        refine List.pairwise_cons.2 ⟨fun y hy => ?_, h⟩
        rcases List.mem_cons.1 hy with rfl | hy
        · exact hk
        · exact preK.lt_le hk (by have := h1 y hy; omega)
/-- Where the search stood. -/
theorem addG_at : ∀ (G : List Grp) (k r : Row) (i : Nat), i ≤ G.length → (∀ x ∈ G.take i, ordK x.1 k < 0) → (∀ x ∈ G.drop i, 0 ≤ ordK x.1 k) →
    addG G k r = if i < G.length ∧ ordK (G.getD i ([], [])).1 k = 0 then G.take i ++ ((G.getD i ([], [])).1, (G.getD i ([], [])).2 ++ [r]) :: G.drop (i + 1) else G.take i ++ (k, [r]) :: G.drop i
  | [], k, r, i, hi, _, _ => by
    obtain rfl : i = 0 := by simpa using hi
    simp [addG]
  | g :: G, k, r, 0, hi, h1, h2 => by
    have := h2 g (by simp)
    rw [addG, if_neg (by omega)]
    by_cases hz : ordK g.1 k = 0
    · simp [hz]
    · simp [hz]
  | g :: G, k, r, i + 1, hi, h1, h2 => by
    have hg := h1 g (by simp)
    rw [addG, if_pos hg, addG_at G k r i (by simpa using hi) (fun x hx => h1 x (by simp [hx])) (fun x hx => h2 x (by simpa using hx))]
    have e1 : (g :: G).getD (i + 1) ([], []) = G.getD i ([], []) := by simp [List.getD_eq_getElem?_getD]
    rw [e1]
    by_cases hc : i < G.length ∧ ordK (G.getD i ([], [])).1 k = 0
    · rw [if_pos hc, if_pos ⟨by simpa using hc.1, hc.2⟩]; simp
    · rw [if_neg hc, if_neg (fun h => hc ⟨by simpa using h.1, h.2⟩)]; simp
def startG (by' : List Int) : List Grp := if by' = [] then [([], [])] else []
def groupsL (by' : List Int) (rows : List Row) : List Grp := rows.foldl (fun G r => addG G (pickS r by') r) (startG by')
theorem groupsL_snoc (by' : List Int) (rows : List Row) (r : Row) : groupsL by' (rows ++ [r]) = addG (groupsL by' rows) (pickS r by') r := by simp [groupsL]
/-- Which rows are a group's. -/
def mineB (by' : List Int) (k : Row) (r : Row) : Bool := decide (ordK (pickS r by') k = 0)
structure GInv (by' : List Int) (rows : List Row) (G : List Grp) : Prop where
  rise : RiseK (G.map (·.1))
  mine : ∀ g ∈ G, g.2 = rows.filter (mineB by' g.1)
  cover : ∀ r ∈ rows, ∃ g ∈ G, ordK (pickS r by') g.1 = 0
theorem ordK_zero_comm {a b : Row} (h : ordK a b = 0) : ordK b a = 0 := by
  have := preK.swap a b; have := preK.swap b a; omega
theorem ordK_zero_trans {a b c : Row} (h : ordK a b = 0) (h2 : ordK b c = 0) : ordK a c = 0 := by
  have := preK.trans a b c (by omega) (by omega)
  have h3 := ordK_zero_comm h; have h4 := ordK_zero_comm h2
  have := preK.trans c b a (by omega) (by omega)
  have := preK.swap a c; have := preK.swap c a
  omega
theorem addG_inv {by' : List Int} : ∀ {G : List Grp} {rows : List Row} {r : Row}, RiseK (G.map (·.1)) → (∀ g ∈ G, g.2 = rows.filter (mineB by' g.1)) → (∀ x ∈ rows, ordK (pickS x by') (pickS r by') = 0 → ∃ g ∈ G, ordK (pickS x by') g.1 = 0) →
    (∀ g ∈ addG G (pickS r by') r, g.2 = (rows ++ [r]).filter (mineB by' g.1)) ∧ (∃ g ∈ addG G (pickS r by') r, ordK (pickS r by') g.1 = 0) ∧ (∀ g ∈ G, ∃ g' ∈ addG G (pickS r by') r, g'.1 = g.1)
  | [], rows, r, _, _, hc => by
    have hself : ordK (pickS r by') (pickS r by') = 0 := by have := preK.swap (pickS r by') (pickS r by'); omega
    refine ⟨fun g hg => ?_, ⟨(pickS r by', [r]), by simp [addG], hself⟩, by simp⟩
    simp only [addG, List.mem_singleton] at hg
    subst hg
    rw [List.filter_append]
    have h1 : rows.filter (mineB by' (pickS r by')) = [] := by
      rw [List.filter_eq_nil_iff]
      intro x hx hm
      obtain ⟨g, hg, _⟩ := hc x hx (of_decide_eq_true hm)
      simp at hg
    simp only [h1, List.nil_append]
    rw [List.filter_cons, if_pos (by simp [mineB, hself])]
    rfl
  | g0 :: G, rows, r, hr, hm, hc => by
    obtain ⟨k1, k2⟩ := List.pairwise_cons.1 hr
    have hself : ordK (pickS r by') (pickS r by') = 0 := by have := preK.swap (pickS r by') (pickS r by'); omega
    have hskip : ∀ g : Grp, ordK (pickS r by') g.1 ≠ 0 → g.2 = rows.filter (mineB by' g.1) → g.2 = (rows ++ [r]).filter (mineB by' g.1) := by
      intro g h0 h
      rw [List.filter_append, List.filter_cons, if_neg (by simpa [mineB] using h0), List.filter_nil, List.append_nil]
      exact h
    rw [addG]
    by_cases hlt : ordK g0.1 (pickS r by') < 0
    · rw [if_pos hlt]
      have hne : ordK (pickS r by') g0.1 ≠ 0 := fun h => by have := ordK_zero_comm h; omega
      obtain ⟨i1, i2, i3⟩ := addG_inv (G := G) (rows := rows) (r := r) (by' := by') k2 (fun g hg => hm g (by simp [hg])) (fun x hx h => by
        obtain ⟨g, hg, hz⟩ := hc x hx h
        rcases List.mem_cons.1 hg with rfl | hg
        · exact absurd (ordK_zero_trans (ordK_zero_comm h) hz) hne
        · exact ⟨g, hg, hz⟩)
      refine ⟨fun g hg => ?_, ?_, fun g hg => ?_⟩
      · rcases List.mem_cons.1 hg with rfl | hg
        · exact hskip _ hne (hm _ (by simp))
        · exact i1 g hg
      · obtain ⟨g, hg, h⟩ := i2
        exact ⟨g, by simp [hg], h⟩
      · rcases List.mem_cons.1 hg with rfl | hg
        · exact ⟨g, by simp, rfl⟩
        · obtain ⟨g', hg', e⟩ := i3 g hg
          exact ⟨g', by simp [hg'], e⟩
    · rw [if_neg hlt]
      have hrest : ∀ g ∈ G, ordK (pickS r by') g.1 ≠ 0 := by
        intro g hg h
        have h1 := k1 g.1 (List.mem_map_of_mem hg)
        have := preK.lt_le h1 (by have := ordK_zero_comm h; omega : ordK g.1 (pickS r by') ≤ 0)
        exact hlt this
      by_cases hz : ordK g0.1 (pickS r by') = 0
      · rw [if_pos hz]
        refine ⟨fun g hg => ?_, ⟨_, List.mem_cons_self, ordK_zero_comm hz⟩, fun g hg => ?_⟩
        · rcases List.mem_cons.1 hg with rfl | hg
          · rw [List.filter_append, List.filter_cons, if_pos (by simp [mineB, ordK_zero_comm hz]), List.filter_nil, ← hm g0 (by simp)]
          · exact hskip _ (hrest g hg) (hm g (by simp [hg]))
        · rcases List.mem_cons.1 hg with rfl | hg
          · exact ⟨_, List.mem_cons_self, rfl⟩
          · exact ⟨g, by simp [hg], rfl⟩
      · rw [if_neg hz]
        refine ⟨fun g hg => ?_, ⟨_, List.mem_cons_self, hself⟩, fun g hg => ⟨g, by simp [hg], rfl⟩⟩
        rcases List.mem_cons.1 hg with rfl | hg
        · rw [List.filter_append]
          have h1 : rows.filter (mineB by' (pickS r by')) = [] := by
            rw [List.filter_eq_nil_iff]
            intro x hx hmm
            have hxz : ordK (pickS x by') (pickS r by') = 0 := of_decide_eq_true hmm
            obtain ⟨g, hg, h⟩ := hc x hx hxz
            have h9 := ordK_zero_trans (ordK_zero_comm hxz) h
            rcases List.mem_cons.1 hg with rfl | hg
            · exact hz (ordK_zero_comm h9)
            · exact hrest g hg h9
          simp only [h1, List.nil_append]
          rw [List.filter_cons, if_pos (by simp [mineB, hself])]
          rfl
        · rcases List.mem_cons.1 hg with rfl | hg
          · exact hskip _ (fun h => hz (ordK_zero_comm h)) (hm _ (by simp))
          · exact hskip _ (hrest g hg) (hm g (by simp [hg]))
theorem GInv.add {by' : List Int} {rows : List Row} {G : List Grp} {r : Row} (h : GInv by' rows G) : GInv by' (rows ++ [r]) (addG G (pickS r by') r) := by
  obtain ⟨h1, h2, h3⟩ := addG_inv (r := r) h.rise h.mine (fun x hx _ => h.cover x hx)
  refine ⟨by rw [addG_keys]; exact insK_rise h.rise, h1, fun x hx => ?_⟩
  rcases List.mem_append.1 hx with hx | hx
  · obtain ⟨g, hg, hz⟩ := h.cover x hx
    obtain ⟨g', hg', e⟩ := h3 g hg
    exact ⟨g', hg', by rw [e]; exact hz⟩
  · rw [List.mem_singleton.1 hx]; exact h2
theorem groupsL_inv (by' : List Int) : ∀ (pre : List Row), GInv by' pre (groupsL by' pre) := by
  intro pre
  have gen : ∀ (l pre : List Row) (G : List Grp), GInv by' pre G → GInv by' (pre ++ l) (l.foldl (fun G r => addG G (pickS r by') r) G) := by
    intro l
    induction l with
    | nil => intro pre G h; simpa using h
    | cons r l ih =>
      intro pre G h
      have := ih (pre ++ [r]) _ (h.add (r := r))
      simpa using this
  have h0 : GInv by' [] (startG by') := by
    unfold startG
    split
    · exact ⟨by simp [RiseK], by simp, by simp⟩
    · exact ⟨by simp [RiseK], by simp, by simp⟩
  simpa [groupsL] using gen pre [] _ h0
theorem groupsL_len (by' : List Int) (rows : List Row) : (groupsL by' rows).length ≤ rows.length + 1 := by
  have gen : ∀ (l : List Row) (G : List Grp), (l.foldl (fun G r => addG G (pickS r by') r) G).length ≤ G.length + l.length := by
    intro l
    induction l with
    | nil => intro G; simp
    | cons r l ih =>
      intro G
      have h := ih (addG G (pickS r by') r)
      have hl : ∀ (G : List Grp) (k r : Row), (addG G k r).length ≤ G.length + 1 := by
        intro G
        induction G with
        | nil => intro k r; simp [addG]
        | cons g G ih =>
          intro k r
          rw [addG]
          split
          · have := ih k r; simp; omega
          · split <;> simp
      have := hl G (pickS r by') r
      simp only [List.foldl_cons, List.length_cons]
      omega
  have h := gen rows (startG by')
  have h0 : (startG by').length ≤ 1 := by unfold startG; split <;> simp
  unfold groupsL
  omega
theorem addG_klen (n : Nat) : ∀ (G : List Grp) (k r : Row), k.length = n → (∀ g ∈ G, g.1.length = n) → ∀ g ∈ addG G k r, g.1.length = n
  | [], k, r, hk, _, g, hg => by simp only [addG, List.mem_singleton] at hg; rw [hg]; exact hk
  | g0 :: G, k, r, hk, h, g, hg => by
    rw [addG] at hg
    split at hg
    · rcases List.mem_cons.1 hg with rfl | hg
      · exact h _ (by simp)
      · exact addG_klen n G k r hk (fun x hx => h x (by simp [hx])) g hg
    · split at hg
      · rcases List.mem_cons.1 hg with rfl | hg
        · exact h g0 (by simp)
        · exact h g (by simp [hg])
      · rcases List.mem_cons.1 hg with rfl | hg
        · exact hk
        · exact h g hg
theorem groupsL_klen (by' : List Int) (rows : List Row) : ∀ g ∈ groupsL by' rows, g.1.length = by'.length := by
  have gen : ∀ (l : List Row) (G : List Grp), (∀ g ∈ G, g.1.length = by'.length) → ∀ g ∈ l.foldl (fun G r => addG G (pickS r by') r) G, g.1.length = by'.length := by
    intro l
    induction l with
    | nil => intro G h; exact h
    | cons r l ih => intro G h; exact ih _ (addG_klen _ G _ r (by simp [pickS]) h)
  refine gen rows _ (fun g hg => ?_)
  unfold startG at hg
  split at hg
  · rename_i e
    rw [List.mem_singleton.1 hg, e]; rfl
  · simp at hg
/-! what is told of a group -/
def numV (n : Int) : S' := ⟨2, false, n, ⟨#[]⟩⟩
def seenB (a : Ag) (v : S') : Bool := v.f0 != 0 && (a.f0 != 1 || v.f0 == 2)
def seenL (a : Ag) (rows : List Row) : List S' := (rows.map (fun r => atS r a.f1)).filter (seenB a)
def sumV (n : Int) (l : List S') : Int := l.foldl (fun n v => wrap64 (n + v.f2)) n
def toldS (a : Ag) (rows : List Row) : S' :=
  if a.f0 = 0 then numV rows.length else
    match seenL a rows with
    | [] => zV
    | x :: l => if a.f0 < 0 then zV else if 3 < a.f0 then zV else if a.f0 = 2 then minV x l else if a.f0 = 3 then maxV x l else numV (sumV 0 (x :: l))
def groupL (by' : List Int) (aggs : List Ag) (rows : List Row) : List Row := (groupsL by' rows).map (fun g => g.1 ++ aggs.map (fun a => toldS a g.2))
/-- The document's: one more row is looked at. -/
def aggStep (a : Ag) (out : S') (v : S') : S' :=
  let o1 : S' := if a.f0 = 1 ∧ v.f0 = 2 then numV (wrap64 (out.f2 + v.f2)) else out
  if v.f0 = 0 then o1 else
    let o2 : S' := if a.f0 = 2 ∧ (o1.f0 = 0 ∨ cmpV (toV v) (toV o1) < 0) then v else o1
    if a.f0 = 3 ∧ (o2.f0 = 0 ∨ 0 < cmpV (toV v) (toV o2)) then v else o2
def aggS (a : Ag) (rows : List Row) : S' := if a.f0 = 0 then numV rows.length else (rows.map (fun r => atS r a.f1)).foldl (aggStep a) zV
theorem zV_f0 : (zV : S').f0 = 0 := rfl
theorem zV_f2 : (zV : S').f2 = 0 := rfl
theorem agg_min (a : Ag) (h : a.f0 = 2) : ∀ (l : List S') (out : S'), l.foldl (aggStep a) out = if out.f0 = 0 then (match l.filter (seenB a) with | [] => out | x :: t => minV x t) else minV out (l.filter (seenB a))
  | [], out => by simp [minV]
  | v :: l, out => by
    rw [List.foldl_cons, agg_min a h l]
    by_cases hv : v.f0 = 0
    · have hs : seenB a v = false := by simp [seenB, hv]
      have ho : aggStep a out v = out := by simp [aggStep, h, hv]
      rw [ho, List.filter_cons_of_neg (by simp [hs])]
    · have hs : seenB a v = true := by simp [seenB, hv, h]
      rw [List.filter_cons_of_pos hs]
      by_cases ho : out.f0 = 0
      · have he : aggStep a out v = v := by simp [aggStep, h, hv, ho]
        rw [he, if_neg hv, if_pos ho]
      · rw [if_neg ho, minV]
        by_cases hc : cmpV (toV v) (toV out) < 0
        · have he : aggStep a out v = v := by simp [aggStep, h, hv, hc]
          rw [he, if_neg hv, if_pos hc]
        · have he : aggStep a out v = out := by simp [aggStep, h, hv, hc, ho]
          rw [he, if_neg ho, if_neg hc]
theorem agg_max (a : Ag) (h : a.f0 = 3) : ∀ (l : List S') (out : S'), l.foldl (aggStep a) out = if out.f0 = 0 then (match l.filter (seenB a) with | [] => out | x :: t => maxV x t) else maxV out (l.filter (seenB a))
  | [], out => by simp [maxV]
  | v :: l, out => by
    rw [List.foldl_cons, agg_max a h l]
    by_cases hv : v.f0 = 0
    · have hs : seenB a v = false := by simp [seenB, hv]
      have ho : aggStep a out v = out := by simp [aggStep, h, hv]
      rw [ho, List.filter_cons_of_neg (by simp [hs])]
    · have hs : seenB a v = true := by simp [seenB, hv, h]
      rw [List.filter_cons_of_pos hs]
      by_cases ho : out.f0 = 0
      · have he : aggStep a out v = v := by simp [aggStep, h, hv, ho]
        rw [he, if_neg hv, if_pos ho]
      · rw [if_neg ho, maxV]
        by_cases hc : 0 < cmpV (toV v) (toV out)
        · have he : aggStep a out v = v := by simp [aggStep, h, hv, hc]
          rw [he, if_neg hv, if_pos hc]
        · have he : aggStep a out v = out := by simp [aggStep, h, hv, hc, ho]
          rw [he, if_neg ho, if_neg hc]
theorem agg_sum (a : Ag) (h : a.f0 = 1) : ∀ (l : List S') (out : S'), l.foldl (aggStep a) out = (match l.filter (seenB a) with | [] => out | x :: t => numV (sumV out.f2 (x :: t)))
  | [], out => rfl
  | v :: l, out => by
    rw [List.foldl_cons, agg_sum a h l]
    by_cases hv : v.f0 = 2
    · have hs : seenB a v = true := by simp [seenB, hv]
      have ho : aggStep a out v = numV (wrap64 (out.f2 + v.f2)) := by simp [aggStep, h, hv]
      rw [ho, List.filter_cons_of_pos hs]
      cases l.filter (seenB a) with
      | nil => rfl
      | cons x t => rfl
    · have hs : seenB a v = false := by simp [seenB, hv, h]
      have ho : aggStep a out v = out := by
        unfold aggStep
        simp [h, hv]
      rw [ho, List.filter_cons_of_neg (by simp [hs])]
theorem agg_none (a : Ag) (h0 : a.f0 ≠ 1) (h2 : a.f0 ≠ 2) (h3 : a.f0 ≠ 3) : ∀ (l : List S') (out : S'), l.foldl (aggStep a) out = out
  | [], out => rfl
  | v :: l, out => by
    have ho : aggStep a out v = out := by
      unfold aggStep
      simp [h0, h2, h3]
    rw [List.foldl_cons, ho, agg_none a h0 h2 h3 l]
theorem told_agg (a : Ag) (rows : List Row) : aggS a rows = toldS a rows := by
  unfold aggS toldS seenL
  by_cases h0 : a.f0 = 0
  · rw [if_pos h0, if_pos h0]
  · rw [if_neg h0, if_neg h0]
    generalize rows.map (fun r => atS r a.f1) = l
    by_cases h2 : a.f0 = 2
    · rw [agg_min a h2, if_pos zV_f0]
      cases l.filter (seenB a) with
      | nil => rfl
      | cons x t => simp only; rw [if_neg (by omega), if_neg (by omega), if_pos h2]
    · by_cases h3 : a.f0 = 3
      · rw [agg_max a h3, if_pos zV_f0]
        cases l.filter (seenB a) with
        | nil => rfl
        | cons x t => simp only; rw [if_neg (by omega), if_neg (by omega), if_neg h2, if_pos h3]
      · by_cases h1 : a.f0 = 1
        · rw [agg_sum a h1, zV_f2]
          cases l.filter (seenB a) with
          | nil => rfl
          | cons x t => simp only; rw [if_neg (by omega), if_neg (by omega), if_neg h2, if_neg h3]
        · rw [agg_none a h1 h2 h3]
          cases l.filter (seenB a) with
          | nil => rfl
          | cons x t =>
            simp only
            by_cases hn : a.f0 < 0
            · rw [if_pos hn]
            · rw [if_neg hn, if_pos (by omega)]
end Go.Proofs.Ytghblnldokpceaa.QV
/- Printed by mp.py (this session's) with the kit's print: plain functions with the answers of the Go code, and the proofs of it. -/
namespace Go.Proofs.Ytghblnldokpceaa.QV
open Go.RowKit Go.Proofs.YtghblnldokpceaaW.PrintWords Go.Proofs.YtghblnldokpceaaW.PrintLast Go.Proofs.YtghblnldokpceaaW.PrintMore
attribute [local go_sem] max2_int min2_int max_two min_two max_three min_three max_four min_four   -- for this text's walks alone
set_option linter.unusedVariables false
set_option linter.unusedSimpArgs false

/-! ### hayloftref15_keys: function 46 -/
mutual
def hayloftref15_keys.l0 : Nat → List (List (S42)) → List Int → List (List (S42)) → Int → Option ((List (List (S42))))
  | 0, _, _, _, _ => none
  | k + 1, x0, x1, x5, x6 => if x6 < (x0.length : Int) then (if 0 ≤ x6 then ((hayloftref15_Pick.f k (rd_L4 x0 x6) x1).bind fun t266 => (hayloftref15_keys.l1 k x0 x1 x5 x6 t266 0)) else (none)) else (some x5)
def hayloftref15_keys.l1 : Nat → List (List (S42)) → List Int → List (List (S42)) → Int → List (S42) → Int → Option ((List (List (S42))))
  | 0, _, _, _, _, _, _ => none
  | k + 1, x0, x1, x5, x6, x7, x8 => if x8 < (x5.length : Int) then (if 0 ≤ x8 then ((hayloftref02_Rows.f (rd_L4 x5 x8) x7).bind fun t270 => (if t270 < 0 then (hayloftref15_keys.l1 k x0 x1 x5 x6 x7 (wrap64 (x8 + 1))) else ((hayloftref02_Rows.f (rd_L4 x5 x8) x7).bind fun t272 => (if t272 = 0 then (hayloftref15_keys.l0 k x0 x1 x5 (wrap64 (x6 + 1))) else (if x8 ≤ (x5.length : Int) then ((some (x5.take (x8 : Int).toNat : List (List (S42)))).bind fun y273 => (if ([] : List (List (S42))).length + y273.length < 5864062014805 then ((some (([] : List (List (S42))) ++ y273 : List (List (S42)))).bind fun y278 => (if y278.length < 5864062014805 then ((some (y278 ++ [x7] : List (List (S42)))).bind fun y281 => ((some (x5.drop (x8 : Int).toNat : List (List (S42)))).bind fun y284 => (if y281.length + y284.length < 5864062014805 then (hayloftref15_keys.l0 k x0 x1 (y281 ++ y284) (wrap64 (x6 + 1))) else (none)))) else (none))) else (none))) else (none)))))) else (none)) else (if 0 ≤ x8 then (if x8 ≤ (x5.length : Int) then ((some (x5.take (x8 : Int).toNat : List (List (S42)))).bind fun y292 => (if ([] : List (List (S42))).length + y292.length < 5864062014805 then ((some (([] : List (List (S42))) ++ y292 : List (List (S42)))).bind fun y297 => (if y297.length < 5864062014805 then ((some (y297 ++ [x7] : List (List (S42)))).bind fun y300 => ((some (x5.drop (x8 : Int).toNat : List (List (S42)))).bind fun y303 => (if y300.length + y303.length < 5864062014805 then (hayloftref15_keys.l0 k x0 x1 (y300 ++ y303) (wrap64 (x6 + 1))) else (none)))) else (none))) else (none))) else (none)) else (none))
end
def hayloftref15_keys.f (k : Nat) (l0 : List (List (S42))) (l1 : List Int) : Option ((List (List (S42)))) := hayloftref15_keys.l0 k l0 l1 ([] : List (List (S42))) 0
set_option maxHeartbeats 8000000 in
set_option maxRecDepth 100000 in
theorem hayloftref15_keys.calls (k : Nat) (A0 : Option Addr) (c0 : Nat) (l0 : List (List (S42))) (A1 : Option Addr) (c1 : Nat) (l1 : List Int) (r : List (List (S42))) (w : World) (hr0 : Kd.C (Kd.slice 42 k42) w A0 l0.length l0) (hc0 : l0.length ≤ c0) (hr1 : Kd.C (Kd.int .i64) w A1 l1.length l1) (hc1 : l1.length ≤ c1) (h : hayloftref15_keys.f k l0 l1 = some r) :
    Calls Try.prog 46 #[.slice A0 l0.length c0, .slice A1 l1.length c1] w fun e w' => ∃ v0_ : Value, e = .returned (v0_) ∧ Kd.N (Kd.slice 42 k42) 31 w' w.heap.size (fun k_ => (w.heap.size ≤ k_)) v0_ r ∧ Below w.heap.size w w' := by
  have HR0 := Aside0.mk hr0
  have HC0 := Aside0.mk hc0
  clear hr0 hc0
  have HR1 := Aside0.mk hr1
  have HC1 := Aside0.mk hc1
  clear hr1 hc1
  have HB := Aside0.mk (Below.refl w.heap.size w)
  have H : (hayloftref15_keys.l0 k l0 l1 ([] : List (List (S42))) 0) = some r := h
  clear h
  have H' := Aside0.mk H
  clear H
  go_enter Try.func46, Try.ntmps46
  go_wp2
  go_loopg [5, 6] k (fun kq v5 v6 w' => ∃ (x5_1 : List (List (S42))) (x6_1 : Int), v6 = .int .i64 x6_1 ∧ Aside0 (hayloftref15_keys.l0 kq l0 l1 x5_1 x6_1 = some r) ∧ Aside0 (kq ≤ k) ∧ Aside0 (Kd.N (Kd.slice 42 k42) 31 w' w.heap.size (fun k_ => (w.heap.size ≤ k_)) v5 x5_1) ∧ Aside0 (Below w.heap.size w w'))
  case atStart => exact ⟨(([] : List (List (S42)))), (0), (by first | rfl | (simp; done) | (simp [*]; done)), H', ⟨Nat.le_refl _⟩, ⟨by first | exact Kd.S_nil _ _ _ _ _ | exact Kd.N_nil _ _ _ _ _ | exact Kd.V_nil _ _ _ _ _ | exact Kd.Q_nil _ _ _ _ _ | exact Kd.R_nil _ _ _ _ _⟩, ⟨by repeat (first | (with_reducible first | exact HB.out | apply below_alloc | apply pw_below_drewN | apply below_drew1) | exact HB.out)⟩⟩
  case round =>
    clear H'
    try clear c1
    try clear p2
    obtain ⟨x5_1, x6_1, rfl, HA, HK1, HO_5, HB⟩ := hrel
    cases gk with
    | zero => exact absurd HA.out (by simp [hayloftref15_keys.l0])
    | succ k1 =>
      have H := HA.out
      clear HA
      simp only [hayloftref15_keys.l0] at H
      by_cases c3 : x6_1 < (l0.length : Int)
      · rw [if_pos c3] at H
        have c3b0 : decide (x6_1 < (l0.length : Int)) = true := decide_eq_true c3
        clear c3
        by_cases c4 : 0 ≤ x6_1
        · rw [if_pos c4] at H
          have c4b0 : decide (0 ≤ x6_1) = true := decide_eq_true c4
          clear c4
          replace H := Option.bind_eq_some_iff.mp H
          obtain ⟨t266, A50, H⟩ := H
          replace H : (hayloftref15_keys.l1 k1 l0 l1 x5_1 x6_1 t266 0) = some r := H
          have A5 := Aside0.mk A50
          clear A50
          have H' := Aside0.mk H
          clear H
          have p265 : 0 ≤ (x6_1 : Int) := of_decide_eq_true (by first | (with_reducible assumption) | assumption)
          have q265 : x6_1 < (l0.length : Int) := of_decide_eq_true (by first | (with_reducible assumption) | assumption)
          obtain ⟨ad265, A265_0, c265_0, e265, hx265_0, hl265_0, hi265_0⟩ := at_L4 HR0.out x6_1 p265 q265
          cases e265
          replace hx265_0 := (HB.out.cell (World.block_lt_of_cell? w _ hx265_0)).trans hx265_0
          have HR265_0 := Aside0.mk hi265_0
          have HC265_0 := Aside0.mk hl265_0
          clear hi265_0 hl265_0
          replace p265 := eq_true p265
          replace q265 := eq_true q265
          go_wp2_with (first | ((with_reducible refine gate_callee (f := 47) rfl ?_); refine goesL_ (some 21) rfl rfl Try.func47 (by kernel_rfl) rfl #[.slice A265_0 (rd_L4 l0 x6_1).length c265_0, .slice A1 l1.length c1] rfl (by (try simp only [List.map_toArray, List.map_cons, List.map_nil]); first | done | rfl | (simp only [List.length_drop, List.length_take]; rfl)) ?_; (with_reducible refine (hayloftref15_Pick.calls k1 _ _ (rd_L4 l0 x6_1) _ _ l1 t266 _ ?side1 ?side2 ?side3 ?side4 A5.out).mono ?_); (case side1 => repeat (first | exact (Kd.C_below HR265_0.out HB.out) | (with_reducible refine Kd.C_alloc ?_ _) | (with_reducible refine Kd.C_drewN ?_ _) | (with_reducible refine Kd.C_drew ?_))); (case side2 => exact HC265_0.out); (case side3 => repeat (first | exact (Kd.C_below HR1.out HB.out) | (with_reducible refine Kd.C_alloc ?_ _) | (with_reducible refine Kd.C_drewN ?_ _) | (with_reducible refine Kd.C_drew ?_))); (case side4 => exact HC1.out); rintro e w6 ⟨v267, rfl, ho0, hb⟩; refine ⟨_, rfl, ?_⟩; have n0_ := Aside0.mk (Kd.N_elder' (by (with_reducible repeat (first | apply Kd.N_alloc | apply Kd.N_drewN | apply Kd.N_drew)); exact HO_5.out) (Kd.R_base ho0) hb); have n1_ := Aside0.mk (Kd.R_lower (Kd.R_newM (M := fun k_ => (w.heap.size ≤ k_)) ho0 (below_size (by repeat (first | (with_reducible first | exact HB.out | apply below_alloc | apply pw_below_drewN | apply below_drew1) | exact HB.out))) (fun k_ h_ => h_)) (below_size (by repeat (first | (with_reducible first | exact HB.out | apply below_alloc | apply pw_below_drewN | apply below_drew1) | exact HB.out)))); have n2_ := Aside0.mk (below_step (by repeat (first | (with_reducible first | exact HB.out | apply below_alloc | apply pw_below_drewN | apply below_drew1) | exact HB.out)) hb); clear HO_5; clear HB; have HO_5 := n0_; have HO268 := n1_; have HB := n2_; clear n0_ n1_ n2_; (try clear hb); (try clear hb2); (try clear hk); (try clear hi); (try clear ho0)))
          go_loopg [8] k1 (fun kq v8 w' => ∃ (x8_2 : Int), v8 = .int .i64 x8_2 ∧ Aside0 (hayloftref15_keys.l1 kq l0 l1 x5_1 x6_1 t266 x8_2 = some r) ∧ Aside0 (kq ≤ k1) ∧ Aside0 (Kd.N (Kd.slice 42 k42) 31 w' w.heap.size (fun k_ => (w.heap.size ≤ k_) ∧ some k_ ≠ (v267 : Value).ownBlock) u5 x5_1) ∧ Aside0 (Kd.R k42 42 w' w.heap.size (fun k_ => (w.heap.size ≤ k_)) v267 t266) ∧ Aside0 (Below w.heap.size w w'))
          case atStart => exact ⟨(0), (by first | rfl | (simp; done) | (simp [*]; done)), H', ⟨Nat.le_refl _⟩, ⟨by (with_reducible repeat (first | apply Kd.N_alloc | apply Kd.N_drewN | apply Kd.N_drew)); exact HO_5.out⟩, ⟨by (with_reducible repeat (first | apply Kd.R_alloc | apply Kd.R_drewN | apply Kd.R_drew)); exact Kd.R_mono HO268.out (fun _ hk => hk.1)⟩, ⟨by repeat (first | (with_reducible first | exact HB.out | apply below_alloc | apply pw_below_drewN | apply below_drew1) | exact HB.out)⟩⟩
          case round =>
            clear H'
            try clear c1
            try clear c2
            try clear p2
            try clear q2
            try clear hx2
            try clear c3
            try clear c3b0
            try clear c4
            try clear c4b0
            try clear hx265_0
            try clear p2
            try clear p265
            try clear q265
            obtain ⟨x8_2, rfl, HA, HK2, HO_5, HO_7, HB⟩ := hrel
            cases gk with
            | zero => exact absurd HA.out (by simp [hayloftref15_keys.l1])
            | succ k2 =>
              have H := HA.out
              clear HA
              simp only [hayloftref15_keys.l1] at H
              by_cases c7 : x8_2 < (x5_1.length : Int)
              · rw [if_pos c7] at H
                have c7b0 : decide (x8_2 < (x5_1.length : Int)) = true := decide_eq_true c7
                clear c7
                by_cases c8 : 0 ≤ x8_2
                · rw [if_pos c8] at H
                  have c8b0 : decide (0 ≤ x8_2) = true := decide_eq_true c8
                  clear c8
                  replace H := Option.bind_eq_some_iff.mp H
                  obtain ⟨t270, A90, H⟩ := H
                  replace H : (if t270 < 0 then (hayloftref15_keys.l1 k2 l0 l1 x5_1 x6_1 t266 (wrap64 (x8_2 + 1))) else ((hayloftref02_Rows.f (rd_L4 x5_1 x8_2) t266).bind fun t272 => (if t272 = 0 then (hayloftref15_keys.l0 k2 l0 l1 x5_1 (wrap64 (x6_1 + 1))) else (if x8_2 ≤ (x5_1.length : Int) then ((some (x5_1.take (x8_2 : Int).toNat : List (List (S42)))).bind fun y273 => (if ([] : List (List (S42))).length + y273.length < 5864062014805 then ((some (([] : List (List (S42))) ++ y273 : List (List (S42)))).bind fun y278 => (if y278.length < 5864062014805 then ((some (y278 ++ [t266] : List (List (S42)))).bind fun y281 => ((some (x5_1.drop (x8_2 : Int).toNat : List (List (S42)))).bind fun y284 => (if y281.length + y284.length < 5864062014805 then (hayloftref15_keys.l0 k2 l0 l1 (y281 ++ y284) (wrap64 (x6_1 + 1))) else (none)))) else (none))) else (none))) else (none))))) = some r := H
                  have A9 := Aside0.mk A90
                  clear A90
                  by_cases c10 : t270 < 0
                  · rw [if_pos c10] at H
                    have c10b0 : decide (t270 < 0) = true := decide_eq_true c10
                    clear c10
                    have H' := Aside0.mk H
                    clear H
                    obtain ⟨Ao11, co11, eo11⟩ := Kd.N_slice HO_5.out
                    subst eo11
                    have p269 : 0 ≤ (x8_2 : Int) := of_decide_eq_true (by first | (with_reducible assumption) | assumption)
                    have q269 : x8_2 < (x5_1.length : Int) := of_decide_eq_true (by first | (with_reducible assumption) | assumption)
                    obtain ⟨ad269, A269_0, c269_0, e269, hx269_0, hl269_0, hi269_0⟩ := at_L4 (Kd.N_reads' HO_5.out).2.2 x8_2 p269 q269
                    cases e269
                    obtain ⟨ce269, hce269, hMe269, hcc269⟩ := Kd.N_get HO_5.out [] x8_2 p269 (by first | exact q269 | exact of_decide_eq_true (by first | (with_reducible assumption) | assumption) | (have e_ := (Kd.N_reads' HO_5.out).1; omega))
                    obtain ⟨ua269_0, uc269_0, rfl, ul269_0, ge269_0⟩ := Kd.FK_slice_open hMe269
                    have hv269_0 := hcc269 0 _ rfl
                    rw [Nat.add_zero, show ((Kd.slice 42 k42)).sz = 1 from rfl, Nat.mul_one] at hv269_0
                    replace hv269_0 := Option.some.inj (hv269_0.symm.trans hx269_0)
                    injection hv269_0 with hva_ hvn_ hvc_
                    rw [hva_] at ge269_0
                    rw [hvc_] at ul269_0
                    have HL269_0 := Aside0.mk (show Kd.V k42 42 _ w.heap.size _ _ (rd_L4 x5_1 x8_2) from Kd.V_mk ul269_0 ge269_0)
                    clear hva_ hvn_ hvc_ ge269_0 ul269_0
                    clear hcc269 hce269
                    have HR269_0 := Aside0.mk hi269_0
                    have HC269_0 := Aside0.mk hl269_0
                    clear hi269_0 hl269_0
                    replace p269 := eq_true p269
                    replace q269 := eq_true q269
                    obtain ⟨Ao12, co12, eo12⟩ := Kd.R_slice HO_7.out
                    subst eo12
                    go_wp2_with (first | (go_at_call 23; (with_reducible refine (hayloftref02_Rows.calls _ _ (rd_L4 x5_1 x8_2) _ _ t266 t270 _ ?side1 ?side2 ?side3 ?side4 A9.out).mono ?_); (case side1 => repeat (first | exact (by repeat (first | (with_reducible exact HR269_0.out) | (with_reducible refine Kd.C_alloc ?_ _) | (with_reducible refine Kd.C_drewN ?_ _) | (with_reducible refine Kd.C_drew ?_) | exact HR269_0.out)) | (with_reducible refine Kd.C_alloc ?_ _) | (with_reducible refine Kd.C_drewN ?_ _) | (with_reducible refine Kd.C_drew ?_))); (case side2 => exact HC269_0.out); (case side3 => repeat (first | exact (Kd.R_reads' HO_7.out).2.2 | (with_reducible refine Kd.C_alloc ?_ _) | (with_reducible refine Kd.C_drewN ?_ _) | (with_reducible refine Kd.C_drew ?_))); (case side4 => exact (Kd.R_reads' HO_7.out).2.1); rintro e w13 ⟨rfl, hb⟩; have n0_ := Aside0.mk (Kd.N_below (by (with_reducible repeat (first | apply Kd.N_alloc | apply Kd.N_drewN | apply Kd.N_drew)); exact HO_5.out) hb); have n1_ := Aside0.mk (Kd.R_below (by (with_reducible repeat (first | apply Kd.R_alloc | apply Kd.R_drewN | apply Kd.R_drew)); exact HO_7.out) hb); have n2_ := Aside0.mk (Kd.V_below (by (with_reducible repeat (first | apply Kd.V_alloc | apply Kd.V_drewN | apply Kd.V_drew)); exact HL269_0.out) hb); have n3_ := Aside0.mk (Kd.C_below (by repeat (first | (with_reducible exact HR269_0.out) | (with_reducible refine Kd.C_alloc ?_ _) | (with_reducible refine Kd.C_drewN ?_ _) | (with_reducible refine Kd.C_drew ?_) | exact HR269_0.out)) hb); have n4_ := Aside0.mk (below_step (by repeat (first | (with_reducible first | exact HB.out | apply below_alloc | apply pw_below_drewN | apply below_drew1) | exact HB.out)) hb); clear HO_5; clear HO_7; clear HL269_0; clear HR269_0; clear HB; have HO_5 := n0_; have HO_7 := n1_; have HL269_0 := n2_; have HR269_0 := n3_; have HB := n4_; clear n0_ n1_ n2_ n3_ n4_; (try clear hb); (try clear hb2); (try clear hk); (try clear hi)))
                    go_roundg k2
                    case measure => have := HK1.out; have := HK2.out; omega
                    case rel => exact ⟨(wrap64 (x8_2 + 1)), (by first | rfl | (simp; done) | (simp [*]; done)), H', ⟨by have := HK1.out; have := HK2.out; omega⟩, ⟨by (with_reducible repeat (first | apply Kd.N_alloc | apply Kd.N_drewN | apply Kd.N_drew)); exact HO_5.out⟩, ⟨by (with_reducible repeat (first | apply Kd.R_alloc | apply Kd.R_drewN | apply Kd.R_drew)); exact HO_7.out⟩, ⟨by repeat (first | (with_reducible first | exact HB.out | apply below_alloc | apply pw_below_drewN | apply below_drew1) | exact HB.out)⟩⟩
                  · rw [if_neg c10] at H
                    have c10b0 : decide (t270 < 0) = false := decide_eq_false c10
                    clear c10
                    replace H := Option.bind_eq_some_iff.mp H
                    obtain ⟨t272, A140, H⟩ := H
                    replace H : (if t272 = 0 then (hayloftref15_keys.l0 k2 l0 l1 x5_1 (wrap64 (x6_1 + 1))) else (if x8_2 ≤ (x5_1.length : Int) then ((some (x5_1.take (x8_2 : Int).toNat : List (List (S42)))).bind fun y273 => (if ([] : List (List (S42))).length + y273.length < 5864062014805 then ((some (([] : List (List (S42))) ++ y273 : List (List (S42)))).bind fun y278 => (if y278.length < 5864062014805 then ((some (y278 ++ [t266] : List (List (S42)))).bind fun y281 => ((some (x5_1.drop (x8_2 : Int).toNat : List (List (S42)))).bind fun y284 => (if y281.length + y284.length < 5864062014805 then (hayloftref15_keys.l0 k2 l0 l1 (y281 ++ y284) (wrap64 (x6_1 + 1))) else (none)))) else (none))) else (none))) else (none))) = some r := H
                    have A14 := Aside0.mk A140
                    clear A140
                    by_cases c15 : t272 = 0
                    · rw [if_pos c15] at H
                      have c15b0 : (t272 == 0) = true := beq_iff_eq.mpr c15
                      have c15b1 : (t272 != 0) = false := bne_eq_false_iff_eq.mpr c15
                      clear c15
                      have H' := Aside0.mk H
                      clear H
                      obtain ⟨Ao16, co16, eo16⟩ := Kd.N_slice HO_5.out
                      subst eo16
                      have p269 : 0 ≤ (x8_2 : Int) := of_decide_eq_true (by first | (with_reducible assumption) | assumption)
                      have q269 : x8_2 < (x5_1.length : Int) := of_decide_eq_true (by first | (with_reducible assumption) | assumption)
                      obtain ⟨ad269, A269_0, c269_0, e269, hx269_0, hl269_0, hi269_0⟩ := at_L4 (Kd.N_reads' HO_5.out).2.2 x8_2 p269 q269
                      cases e269
                      obtain ⟨ce269, hce269, hMe269, hcc269⟩ := Kd.N_get HO_5.out [] x8_2 p269 (by first | exact q269 | exact of_decide_eq_true (by first | (with_reducible assumption) | assumption) | (have e_ := (Kd.N_reads' HO_5.out).1; omega))
                      obtain ⟨ua269_0, uc269_0, rfl, ul269_0, ge269_0⟩ := Kd.FK_slice_open hMe269
                      have hv269_0 := hcc269 0 _ rfl
                      rw [Nat.add_zero, show ((Kd.slice 42 k42)).sz = 1 from rfl, Nat.mul_one] at hv269_0
                      replace hv269_0 := Option.some.inj (hv269_0.symm.trans hx269_0)
                      injection hv269_0 with hva_ hvn_ hvc_
                      rw [hva_] at ge269_0
                      rw [hvc_] at ul269_0
                      have HL269_0 := Aside0.mk (show Kd.V k42 42 _ w.heap.size _ _ (rd_L4 x5_1 x8_2) from Kd.V_mk ul269_0 ge269_0)
                      clear hva_ hvn_ hvc_ ge269_0 ul269_0
                      clear hcc269 hce269
                      have HR269_0 := Aside0.mk hi269_0
                      have HC269_0 := Aside0.mk hl269_0
                      clear hi269_0 hl269_0
                      replace p269 := eq_true p269
                      replace q269 := eq_true q269
                      obtain ⟨Ao17, co17, eo17⟩ := Kd.R_slice HO_7.out
                      subst eo17
                      go_wp2_with (first | (go_at_call 23; (with_reducible refine (hayloftref02_Rows.calls _ _ (rd_L4 x5_1 x8_2) _ _ t266 t270 _ ?side1 ?side2 ?side3 ?side4 A9.out).mono ?_); (case side1 => repeat (first | exact (by repeat (first | (with_reducible exact HR269_0.out) | (with_reducible refine Kd.C_alloc ?_ _) | (with_reducible refine Kd.C_drewN ?_ _) | (with_reducible refine Kd.C_drew ?_) | exact HR269_0.out)) | (with_reducible refine Kd.C_alloc ?_ _) | (with_reducible refine Kd.C_drewN ?_ _) | (with_reducible refine Kd.C_drew ?_))); (case side2 => exact HC269_0.out); (case side3 => repeat (first | exact (Kd.R_reads' HO_7.out).2.2 | (with_reducible refine Kd.C_alloc ?_ _) | (with_reducible refine Kd.C_drewN ?_ _) | (with_reducible refine Kd.C_drew ?_))); (case side4 => exact (Kd.R_reads' HO_7.out).2.1); rintro e w18 ⟨rfl, hb⟩; have n0_ := Aside0.mk (Kd.N_below (by (with_reducible repeat (first | apply Kd.N_alloc | apply Kd.N_drewN | apply Kd.N_drew)); exact HO_5.out) hb); have n1_ := Aside0.mk (Kd.R_below (by (with_reducible repeat (first | apply Kd.R_alloc | apply Kd.R_drewN | apply Kd.R_drew)); exact HO_7.out) hb); have n2_ := Aside0.mk (Kd.V_below (by (with_reducible repeat (first | apply Kd.V_alloc | apply Kd.V_drewN | apply Kd.V_drew)); exact HL269_0.out) hb); have n3_ := Aside0.mk (Kd.C_below (by repeat (first | (with_reducible exact HR269_0.out) | (with_reducible refine Kd.C_alloc ?_ _) | (with_reducible refine Kd.C_drewN ?_ _) | (with_reducible refine Kd.C_drew ?_) | exact HR269_0.out)) hb); have n4_ := Aside0.mk (below_step (by repeat (first | (with_reducible first | exact HB.out | apply below_alloc | apply pw_below_drewN | apply below_drew1) | exact HB.out)) hb); clear HO_5; clear HO_7; clear HL269_0; clear HR269_0; clear HB; have HO_5 := n0_; have HO_7 := n1_; have HL269_0 := n2_; have HR269_0 := n3_; have HB := n4_; clear n0_ n1_ n2_ n3_ n4_; (try clear hb); (try clear hb2); (try clear hk); (try clear hi); have p271 : 0 ≤ (x8_2 : Int) := of_decide_eq_true (by first | (with_reducible assumption) | assumption); have q271 : x8_2 < (x5_1.length : Int) := of_decide_eq_true (by first | (with_reducible assumption) | assumption); obtain ⟨ad271, A271_0, c271_0, e271, hx271_0, hl271_0, hi271_0⟩ := at_L4 (Kd.N_reads' HO_5.out).2.2 x8_2 p271 q271; obtain rfl : ad269 = ad271 := (by injection e271); obtain ⟨ce271, hce271, hMe271, hcc271⟩ := Kd.N_get HO_5.out [] x8_2 p271 (by first | exact q271 | exact of_decide_eq_true (by first | (with_reducible assumption) | assumption) | (have e_ := (Kd.N_reads' HO_5.out).1; omega)); obtain ⟨ua271_0, uc271_0, rfl, ul271_0, ge271_0⟩ := Kd.FK_slice_open hMe271; have hv271_0 := hcc271 0 _ rfl; rw [Nat.add_zero, show ((Kd.slice 42 k42)).sz = 1 from rfl, Nat.mul_one] at hv271_0; replace hv271_0 := Option.some.inj (hv271_0.symm.trans hx271_0); injection hv271_0 with hva_ hvn_ hvc_; rw [hva_] at ge271_0; rw [hvc_] at ul271_0; have HL271_0 := Aside0.mk (show Kd.V k42 42 _ w.heap.size _ _ (rd_L4 x5_1 x8_2) from Kd.V_mk ul271_0 ge271_0); clear hva_ hvn_ hvc_ ge271_0 ul271_0; clear hcc271 hce271; have HR271_0 := Aside0.mk hi271_0; have HC271_0 := Aside0.mk hl271_0; clear hi271_0 hl271_0; replace p271 := eq_true p271; replace q271 := eq_true q271) | (go_at_call 23; (with_reducible refine (hayloftref02_Rows.calls _ _ (rd_L4 x5_1 x8_2) _ _ t266 t272 _ ?side1 ?side2 ?side3 ?side4 A14.out).mono ?_); (case side1 => repeat (first | exact (by repeat (first | (with_reducible exact HR271_0.out) | (with_reducible refine Kd.C_alloc ?_ _) | (with_reducible refine Kd.C_drewN ?_ _) | (with_reducible refine Kd.C_drew ?_) | exact HR271_0.out)) | (with_reducible refine Kd.C_alloc ?_ _) | (with_reducible refine Kd.C_drewN ?_ _) | (with_reducible refine Kd.C_drew ?_))); (case side2 => exact HC271_0.out); (case side3 => repeat (first | exact (Kd.R_reads' HO_7.out).2.2 | (with_reducible refine Kd.C_alloc ?_ _) | (with_reducible refine Kd.C_drewN ?_ _) | (with_reducible refine Kd.C_drew ?_))); (case side4 => exact (Kd.R_reads' HO_7.out).2.1); rintro e w19 ⟨rfl, hb⟩; have n0_ := Aside0.mk (Kd.N_below (by (with_reducible repeat (first | apply Kd.N_alloc | apply Kd.N_drewN | apply Kd.N_drew)); exact HO_5.out) hb); have n1_ := Aside0.mk (Kd.R_below (by (with_reducible repeat (first | apply Kd.R_alloc | apply Kd.R_drewN | apply Kd.R_drew)); exact HO_7.out) hb); have n2_ := Aside0.mk (Kd.V_below (by (with_reducible repeat (first | apply Kd.V_alloc | apply Kd.V_drewN | apply Kd.V_drew)); exact HL269_0.out) hb); have n3_ := Aside0.mk (Kd.V_below (by (with_reducible repeat (first | apply Kd.V_alloc | apply Kd.V_drewN | apply Kd.V_drew)); exact HL271_0.out) hb); have n4_ := Aside0.mk (Kd.C_below (by repeat (first | (with_reducible exact HR269_0.out) | (with_reducible refine Kd.C_alloc ?_ _) | (with_reducible refine Kd.C_drewN ?_ _) | (with_reducible refine Kd.C_drew ?_) | exact HR269_0.out)) hb); have n5_ := Aside0.mk (Kd.C_below (by repeat (first | (with_reducible exact HR271_0.out) | (with_reducible refine Kd.C_alloc ?_ _) | (with_reducible refine Kd.C_drewN ?_ _) | (with_reducible refine Kd.C_drew ?_) | exact HR271_0.out)) hb); have n6_ := Aside0.mk (below_step (by repeat (first | (with_reducible first | exact HB.out | apply below_alloc | apply pw_below_drewN | apply below_drew1) | exact HB.out)) hb); clear HO_5; clear HO_7; clear HL269_0; clear HL271_0; clear HR269_0; clear HR271_0; clear HB; have HO_5 := n0_; have HO_7 := n1_; have HL269_0 := n2_; have HL271_0 := n3_; have HR269_0 := n4_; have HR271_0 := n5_; have HB := n6_; clear n0_ n1_ n2_ n3_ n4_ n5_ n6_; (try clear hb); (try clear hb2); (try clear hk); (try clear hi)))
                      go_roundg k2
                      case measure => have := HK1.out; have := HK2.out; omega
                      case rel => exact ⟨(x5_1), (wrap64 (x6_1 + 1)), (by first | rfl | (simp; done) | (simp [*]; done)), H', ⟨by have := HK1.out; have := HK2.out; omega⟩, ⟨by (with_reducible repeat (first | apply Kd.N_alloc | apply Kd.N_drewN | apply Kd.N_drew)); exact Kd.N_mono HO_5.out (fun _ hk => hk.1)⟩, ⟨by repeat (first | (with_reducible first | exact HB.out | apply below_alloc | apply pw_below_drewN | apply below_drew1) | exact HB.out)⟩⟩
                    · rw [if_neg c15] at H
                      have c15b0 : (t272 == 0) = false := beq_eq_false_iff_ne.mpr c15
                      have c15b1 : (t272 != 0) = true := bne_iff_ne.mpr c15
                      have c20b0 := eq_true (of_decide_eq_true (by first | (with_reducible assumption) | assumption) : 0 ≤ x8_2)
                      by_cases c21 : x8_2 ≤ (x5_1.length : Int)
                      · rw [if_pos c21] at H
                        have c21b0 := eq_true c21
                        have c21b1 : decide (x8_2 ≤ (x5_1.length : Int)) = true := decide_eq_true c21
                        clear c21
                        obtain ⟨y273, hy273⟩ : ∃ y_ : List (List (S42)), y_ = (x5_1.take (x8_2 : Int).toNat) := ⟨_, rfl⟩
                        replace H : (if ([] : List (List (S42))).length + y273.length < 5864062014805 then ((some (([] : List (List (S42))) ++ y273 : List (List (S42)))).bind fun y278 => (if y278.length < 5864062014805 then ((some (y278 ++ [t266] : List (List (S42)))).bind fun y281 => ((some (x5_1.drop (x8_2 : Int).toNat : List (List (S42)))).bind fun y284 => (if y281.length + y284.length < 5864062014805 then (hayloftref15_keys.l0 k2 l0 l1 (y281 ++ y284) (wrap64 (x6_1 + 1))) else (none)))) else (none))) else (none)) = some r := by first | (rw [hy273]; with_reducible exact H) | (have H2_ := (Option.bind_some _ _).symm.trans H; rw [hy273]; with_reducible exact H2_) | (have H2_ := (Option.bind_some _ _).symm.trans H; with_reducible exact H2_) | with_reducible exact H | (rw [hy273]; exact H) | exact H
                        have Ny273 := Aside0.mk hy273
                        clear hy273
                        by_cases c22 : ([] : List (List (S42))).length + y273.length < 5864062014805
                        · rw [if_pos c22] at H
                          have LMc22 := Aside0.mk c22
                          clear c22
                          obtain ⟨y278, hy278⟩ : ∃ y_ : List (List (S42)), y_ = (([] : List (List (S42))) ++ y273) := ⟨_, rfl⟩
                          replace H : (if y278.length < 5864062014805 then ((some (y278 ++ [t266] : List (List (S42)))).bind fun y281 => ((some (x5_1.drop (x8_2 : Int).toNat : List (List (S42)))).bind fun y284 => (if y281.length + y284.length < 5864062014805 then (hayloftref15_keys.l0 k2 l0 l1 (y281 ++ y284) (wrap64 (x6_1 + 1))) else (none)))) else (none)) = some r := by first | (rw [hy278]; with_reducible exact H) | (have H2_ := (Option.bind_some _ _).symm.trans H; rw [hy278]; with_reducible exact H2_) | (have H2_ := (Option.bind_some _ _).symm.trans H; with_reducible exact H2_) | with_reducible exact H | (rw [hy278]; exact H) | exact H
                          have Ny278 := Aside0.mk hy278
                          clear hy278
                          by_cases c23 : y278.length < 5864062014805
                          · rw [if_pos c23] at H
                            have LMc23 := Aside0.mk c23
                            clear c23
                            obtain ⟨y281, hy281⟩ : ∃ y_ : List (List (S42)), y_ = (y278 ++ [t266]) := ⟨_, rfl⟩
                            replace H : ((some (x5_1.drop (x8_2 : Int).toNat : List (List (S42)))).bind fun y284 => (if y281.length + y284.length < 5864062014805 then (hayloftref15_keys.l0 k2 l0 l1 (y281 ++ y284) (wrap64 (x6_1 + 1))) else (none))) = some r := by first | (rw [hy281]; with_reducible exact H) | (have H2_ := (Option.bind_some _ _).symm.trans H; rw [hy281]; with_reducible exact H2_) | (have H2_ := (Option.bind_some _ _).symm.trans H; with_reducible exact H2_) | with_reducible exact H | (rw [hy281]; exact H) | exact H
                            have Ny281 := Aside0.mk hy281
                            clear hy281
                            have c24b0 := eq_true (of_decide_eq_true (by first | (with_reducible assumption) | assumption) : 0 ≤ x8_2)
                            have c25b0 := eq_true (of_decide_eq_true (by first | (with_reducible assumption) | assumption) : x8_2 ≤ (x5_1.length : Int))
                            obtain ⟨y284, hy284⟩ : ∃ y_ : List (List (S42)), y_ = (x5_1.drop (x8_2 : Int).toNat) := ⟨_, rfl⟩
                            replace H : (if y281.length + y284.length < 5864062014805 then (hayloftref15_keys.l0 k2 l0 l1 (y281 ++ y284) (wrap64 (x6_1 + 1))) else (none)) = some r := by first | (rw [hy284]; with_reducible exact H) | (have H2_ := (Option.bind_some _ _).symm.trans H; rw [hy284]; with_reducible exact H2_) | (have H2_ := (Option.bind_some _ _).symm.trans H; with_reducible exact H2_) | with_reducible exact H | (rw [hy284]; exact H) | exact H
                            have Ny284 := Aside0.mk hy284
                            clear hy284
                            by_cases c26 : y281.length + y284.length < 5864062014805
                            · rw [if_pos c26] at H
                              have LMc26 := Aside0.mk c26
                              clear c26
                              obtain ⟨y289, hy289⟩ : ∃ y_ : List (List (S42)), y_ = (y281 ++ y284) := ⟨_, rfl⟩
                              replace H : (hayloftref15_keys.l0 k2 l0 l1 y289 (wrap64 (x6_1 + 1))) = some r := by first | (rw [hy289]; with_reducible exact H) | (have H2_ := (Option.bind_some _ _).symm.trans H; rw [hy289]; with_reducible exact H2_) | (have H2_ := (Option.bind_some _ _).symm.trans H; with_reducible exact H2_) | with_reducible exact H | (rw [hy289]; exact H) | exact H
                              have Ny289 := Aside0.mk hy289
                              clear hy289
                              have H' := Aside0.mk H
                              clear H
                              obtain ⟨Ao27, co27, eo27⟩ := Kd.N_slice HO_5.out
                              subst eo27
                              have p269 : 0 ≤ (x8_2 : Int) := of_decide_eq_true (by first | (with_reducible assumption) | assumption)
                              have q269 : x8_2 < (x5_1.length : Int) := of_decide_eq_true (by first | (with_reducible assumption) | assumption)
                              obtain ⟨ad269, A269_0, c269_0, e269, hx269_0, hl269_0, hi269_0⟩ := at_L4 (Kd.N_reads' HO_5.out).2.2 x8_2 p269 q269
                              cases e269
                              obtain ⟨ce269, hce269, hMe269, hcc269⟩ := Kd.N_get HO_5.out [] x8_2 p269 (by first | exact q269 | exact of_decide_eq_true (by first | (with_reducible assumption) | assumption) | (have e_ := (Kd.N_reads' HO_5.out).1; omega))
                              obtain ⟨ua269_0, uc269_0, rfl, ul269_0, ge269_0⟩ := Kd.FK_slice_open hMe269
                              have hv269_0 := hcc269 0 _ rfl
                              rw [Nat.add_zero, show ((Kd.slice 42 k42)).sz = 1 from rfl, Nat.mul_one] at hv269_0
                              replace hv269_0 := Option.some.inj (hv269_0.symm.trans hx269_0)
                              injection hv269_0 with hva_ hvn_ hvc_
                              rw [hva_] at ge269_0
                              rw [hvc_] at ul269_0
                              have HL269_0 := Aside0.mk (show Kd.V k42 42 _ w.heap.size _ _ (rd_L4 x5_1 x8_2) from Kd.V_mk ul269_0 ge269_0)
                              clear hva_ hvn_ hvc_ ge269_0 ul269_0
                              clear hcc269 hce269
                              have HR269_0 := Aside0.mk hi269_0
                              have HC269_0 := Aside0.mk hl269_0
                              clear hi269_0 hl269_0
                              replace p269 := eq_true p269
                              replace q269 := eq_true q269
                              obtain ⟨Ao28, co28, eo28⟩ := Kd.R_slice HO_7.out
                              subst eo28
                              go_wp2_with (first | (go_at_call 23; (with_reducible refine (hayloftref02_Rows.calls _ _ (rd_L4 x5_1 x8_2) _ _ t266 t270 _ ?side1 ?side2 ?side3 ?side4 A9.out).mono ?_); (case side1 => repeat (first | exact (by repeat (first | (with_reducible exact HR269_0.out) | (with_reducible refine Kd.C_alloc ?_ _) | (with_reducible refine Kd.C_drewN ?_ _) | (with_reducible refine Kd.C_drew ?_) | exact HR269_0.out)) | (with_reducible refine Kd.C_alloc ?_ _) | (with_reducible refine Kd.C_drewN ?_ _) | (with_reducible refine Kd.C_drew ?_))); (case side2 => exact HC269_0.out); (case side3 => repeat (first | exact (Kd.R_reads' HO_7.out).2.2 | (with_reducible refine Kd.C_alloc ?_ _) | (with_reducible refine Kd.C_drewN ?_ _) | (with_reducible refine Kd.C_drew ?_))); (case side4 => exact (Kd.R_reads' HO_7.out).2.1); rintro e w29 ⟨rfl, hb⟩; have n0_ := Aside0.mk (Kd.N_below (by (with_reducible repeat (first | apply Kd.N_alloc | apply Kd.N_drewN | apply Kd.N_drew)); exact HO_5.out) hb); have n1_ := Aside0.mk (Kd.R_below (by (with_reducible repeat (first | apply Kd.R_alloc | apply Kd.R_drewN | apply Kd.R_drew)); exact HO_7.out) hb); have n2_ := Aside0.mk (Kd.V_below (by (with_reducible repeat (first | apply Kd.V_alloc | apply Kd.V_drewN | apply Kd.V_drew)); exact HL269_0.out) hb); have n3_ := Aside0.mk (Kd.C_below (by repeat (first | (with_reducible exact HR269_0.out) | (with_reducible refine Kd.C_alloc ?_ _) | (with_reducible refine Kd.C_drewN ?_ _) | (with_reducible refine Kd.C_drew ?_) | exact HR269_0.out)) hb); have n4_ := Aside0.mk (below_step (by repeat (first | (with_reducible first | exact HB.out | apply below_alloc | apply pw_below_drewN | apply below_drew1) | exact HB.out)) hb); clear HO_5; clear HO_7; clear HL269_0; clear HR269_0; clear HB; have HO_5 := n0_; have HO_7 := n1_; have HL269_0 := n2_; have HR269_0 := n3_; have HB := n4_; clear n0_ n1_ n2_ n3_ n4_; (try clear hb); (try clear hb2); (try clear hk); (try clear hi); have p271 : 0 ≤ (x8_2 : Int) := of_decide_eq_true (by first | (with_reducible assumption) | assumption); have q271 : x8_2 < (x5_1.length : Int) := of_decide_eq_true (by first | (with_reducible assumption) | assumption); obtain ⟨ad271, A271_0, c271_0, e271, hx271_0, hl271_0, hi271_0⟩ := at_L4 (Kd.N_reads' HO_5.out).2.2 x8_2 p271 q271; obtain rfl : ad269 = ad271 := (by injection e271); obtain ⟨ce271, hce271, hMe271, hcc271⟩ := Kd.N_get HO_5.out [] x8_2 p271 (by first | exact q271 | exact of_decide_eq_true (by first | (with_reducible assumption) | assumption) | (have e_ := (Kd.N_reads' HO_5.out).1; omega)); obtain ⟨ua271_0, uc271_0, rfl, ul271_0, ge271_0⟩ := Kd.FK_slice_open hMe271; have hv271_0 := hcc271 0 _ rfl; rw [Nat.add_zero, show ((Kd.slice 42 k42)).sz = 1 from rfl, Nat.mul_one] at hv271_0; replace hv271_0 := Option.some.inj (hv271_0.symm.trans hx271_0); injection hv271_0 with hva_ hvn_ hvc_; rw [hva_] at ge271_0; rw [hvc_] at ul271_0; have HL271_0 := Aside0.mk (show Kd.V k42 42 _ w.heap.size _ _ (rd_L4 x5_1 x8_2) from Kd.V_mk ul271_0 ge271_0); clear hva_ hvn_ hvc_ ge271_0 ul271_0; clear hcc271 hce271; have HR271_0 := Aside0.mk hi271_0; have HC271_0 := Aside0.mk hl271_0; clear hi271_0 hl271_0; replace p271 := eq_true p271; replace q271 := eq_true q271) | (go_at_call 23; (with_reducible refine (hayloftref02_Rows.calls _ _ (rd_L4 x5_1 x8_2) _ _ t266 t272 _ ?side1 ?side2 ?side3 ?side4 A14.out).mono ?_); (case side1 => repeat (first | exact (by repeat (first | (with_reducible exact HR271_0.out) | (with_reducible refine Kd.C_alloc ?_ _) | (with_reducible refine Kd.C_drewN ?_ _) | (with_reducible refine Kd.C_drew ?_) | exact HR271_0.out)) | (with_reducible refine Kd.C_alloc ?_ _) | (with_reducible refine Kd.C_drewN ?_ _) | (with_reducible refine Kd.C_drew ?_))); (case side2 => exact HC271_0.out); (case side3 => repeat (first | exact (Kd.R_reads' HO_7.out).2.2 | (with_reducible refine Kd.C_alloc ?_ _) | (with_reducible refine Kd.C_drewN ?_ _) | (with_reducible refine Kd.C_drew ?_))); (case side4 => exact (Kd.R_reads' HO_7.out).2.1); rintro e w30 ⟨rfl, hb⟩; have n0_ := Aside0.mk (Kd.N_below (by (with_reducible repeat (first | apply Kd.N_alloc | apply Kd.N_drewN | apply Kd.N_drew)); exact HO_5.out) hb); have n1_ := Aside0.mk (Kd.R_below (by (with_reducible repeat (first | apply Kd.R_alloc | apply Kd.R_drewN | apply Kd.R_drew)); exact HO_7.out) hb); have n2_ := Aside0.mk (Kd.V_below (by (with_reducible repeat (first | apply Kd.V_alloc | apply Kd.V_drewN | apply Kd.V_drew)); exact HL269_0.out) hb); have n3_ := Aside0.mk (Kd.V_below (by (with_reducible repeat (first | apply Kd.V_alloc | apply Kd.V_drewN | apply Kd.V_drew)); exact HL271_0.out) hb); have n4_ := Aside0.mk (Kd.C_below (by repeat (first | (with_reducible exact HR269_0.out) | (with_reducible refine Kd.C_alloc ?_ _) | (with_reducible refine Kd.C_drewN ?_ _) | (with_reducible refine Kd.C_drew ?_) | exact HR269_0.out)) hb); have n5_ := Aside0.mk (Kd.C_below (by repeat (first | (with_reducible exact HR271_0.out) | (with_reducible refine Kd.C_alloc ?_ _) | (with_reducible refine Kd.C_drewN ?_ _) | (with_reducible refine Kd.C_drew ?_) | exact HR271_0.out)) hb); have n6_ := Aside0.mk (below_step (by repeat (first | (with_reducible first | exact HB.out | apply below_alloc | apply pw_below_drewN | apply below_drew1) | exact HB.out)) hb); clear HO_5; clear HO_7; clear HL269_0; clear HL271_0; clear HR269_0; clear HR271_0; clear HB; have HO_5 := n0_; have HO_7 := n1_; have HL269_0 := n2_; have HL271_0 := n3_; have HR269_0 := n4_; have HR271_0 := n5_; have HB := n6_; clear n0_ n1_ n2_ n3_ n4_ n5_ n6_; (try clear hb); (try clear hb2); (try clear hk); (try clear hi); have q31 : (x8_2 : Int) ≤ ((x5_1.length : Int) : Int) := of_decide_eq_true (by first | (with_reducible assumption) | assumption); obtain ⟨i031, hi031, _, hsz31, _⟩ := info_parts info31; have hroom31 : x5_1.length ≤ co27 := (Kd.N_reads' HO_5.out).2.1; have hC31 : Kd.F (Kd.slice 42 k42) _ _ (some ad269) x5_1.length x5_1 := (Kd.V_at (base := w.heap.size) (Kd.N_V HO_5.out)).2.2; have hcut31 := cut_to (P := Try.prog) 22 31 .i64 Try.underlying22 hi031 (some ad269) x5_1.length co27 x8_2 (of_decide_eq_true (by first | (with_reducible assumption) | assumption)) q31 hroom31; have hr31 := Kd.F_take (m := (x8_2 : Int).toNat) hC31 (by omega); have hy31 : y273.length = (x8_2 : Int).toNat := (by rw [Ny273.out, List.length_take]; omega); rw [← Ny273.out] at hr31; rw [← hy31] at hcut31; have HO277 := Aside0.mk (show Kd.V (Kd.slice 42 k42) 31 _ w.heap.size _ (.slice (some ad269) y273.length co27) y273 from Kd.V_mk (by omega) hr31); have HC277 := Aside0.mk (show y273.length ≤ co27 from by omega); clear hr31 hC31 hroom31 hi031 hsz31; have KY31 := Aside0.mk hy31; clear hy31; replace q31 := eq_true q31) | ((with_reducible refine gate_builtin (b := .append) (xs := #[.tmp 50, .tmp 53]) rfl ?_); at_builtin; refine Kd.N_append_rows (Kd.slice 42 k42) (w0 := w) w.heap.size rfl (.tmp 50) (.tmp 53) 22 31 (.slice none 0 0) 24 rfl Try.underlying22 info31 rfl (by decide) (by omega) (.slice none 0 0) ([] : List (List (S42))) y273 _ _ _ (fun k_ => (w.heap.size ≤ k_) ∧ some k_ ≠ (.slice Ao28 t266.length co28 : Value).ownBlock) (fun k_ => ((fun k_ => (w.heap.size ≤ k_) ∧ some k_ ≠ (.slice Ao28 t266.length co28 : Value).ownBlock)) k_ ∧ some k_ ≠ (.slice none 0 0 : Value).ownBlock) rfl rfl ?aO ?aR (fun _ hk => hk) ?aF ?aB ?aS ?aL ?_; (case aR => exact (by skip; exact Kd.V_F (Kd.V_mono (ok' := (fun k_ => ((fun k_ => (w.heap.size ≤ k_) ∧ some k_ ≠ (.slice Ao28 t266.length co28 : Value).ownBlock)) k_ ∧ some k_ ≠ (.slice none 0 0 : Value).ownBlock)) (HO277.out) (fun k_ hk => ⟨⟨hk.1, hk.2⟩, (by simp [Value.ownBlock])⟩)))); (case aB => exact (by repeat (first | (with_reducible first | exact HB.out | apply below_alloc | apply pw_below_drewN | apply below_drew1) | exact HB.out))); (case aF => exact (fun k_ hk => ⟨(Nat.le_trans (below_size (by repeat (first | (with_reducible first | exact HB.out | apply below_alloc | apply pw_below_drewN | apply below_drew1) | exact HB.out))) hk), Kd.fresh' (Kd.R_lt (by (with_reducible repeat (first | apply Kd.R_alloc | apply Kd.R_drewN | apply Kd.R_drew)); exact HO_7.out)) k_ hk⟩)); (case aO => exact ((Kd.N_nil _ _ _ _ (fun k_ => (w.heap.size ≤ k_) ∧ some k_ ≠ (.slice Ao28 t266.length co28 : Value).ownBlock)))); (case aS => exact (below_size (by repeat (first | (with_reducible first | exact HB.out | apply below_alloc | apply pw_below_drewN | apply below_drew1) | exact HB.out)))); (case aL => have := LMc22.out; omega); intro v279 w32 ho hb hg hat; rw [← Ny278.out] at ho; have n0_ := Aside0.mk (Kd.N_afterv (Kd.N_apart_nil (by (with_reducible repeat (first | apply Kd.N_alloc | apply Kd.N_drewN | apply Kd.N_drew)); exact HO_5.out)) hg hat); have n1_ := Aside0.mk (Kd.R_grown (by (with_reducible repeat (first | apply Kd.R_alloc | apply Kd.R_drewN | apply Kd.R_drew)); exact HO_7.out) hg (fun _ _ => by simp [Value.ownBlock])); have n2_ := Aside0.mk (Kd.V_afterv (Kd.V_apart_nil (by (with_reducible repeat (first | apply Kd.V_alloc | apply Kd.V_drewN | apply Kd.V_drew)); exact HL269_0.out)) hg hat); have n3_ := Aside0.mk (Kd.V_afterv (Kd.V_apart_nil (by (with_reducible repeat (first | apply Kd.V_alloc | apply Kd.V_drewN | apply Kd.V_drew)); exact HL271_0.out)) hg hat); have n4_ := Aside0.mk (Kd.V_afterv (Kd.V_apart_nil (by (with_reducible repeat (first | apply Kd.V_alloc | apply Kd.V_drewN | apply Kd.V_drew)); exact HO277.out)) hg hat); have n5_ := Aside0.mk (hb); have n6_ := Aside0.mk (ho); clear HO_5; clear HO_7; clear HL269_0; clear HL271_0; clear HO277; clear HB; have HO_5 := n0_; have HO_7 := n1_; have HL269_0 := n2_; have HL271_0 := n3_; have HO277 := n4_; have HB := n5_; have HO280 := n6_; clear n0_ n1_ n2_ n3_ n4_ n5_ n6_; clear ho hb hg hat) | ((with_reducible refine gate_builtin (b := .append) (xs := #[.tmp 55, .tmp 57]) rfl ?_); at_builtin; refine Kd.N_append (Kd.slice 42 k42) (w0 := w) w.heap.size rfl (.tmp 55) (.tmp 57) 22 31 (.slice none 0 0) 24 rfl Try.underlying22 info31 rfl (by decide) (by omega) v279 y278 t266 [.slice Ao28 t266.length co28] (fun k_ => (w.heap.size ≤ k_)) (fun k_ => ((fun k_ => (w.heap.size ≤ k_))) k_ ∧ some k_ ≠ (v279 : Value).ownBlock) rfl rfl ?aP (fun _ hk => hk) ?aF ?aO ?aB ?aS ?aL ?_; (case aP => exact (Kd.FK_slice_mk (Kd.R_reads' (Kd.R_mono (ok' := (fun k_ => ((fun k_ => (w.heap.size ≤ k_))) k_ ∧ some k_ ≠ (v279 : Value).ownBlock)) (Kd.R_apart' (HO_7.out) (Kd.N_typed HO280.out) (by decide)) (fun k_ hk => ⟨hk.1, hk.2⟩))).2.1 (Kd.R_F (Kd.R_mono (ok' := (fun k_ => ((fun k_ => (w.heap.size ≤ k_))) k_ ∧ some k_ ≠ (v279 : Value).ownBlock)) (Kd.R_apart' (HO_7.out) (Kd.N_typed HO280.out) (by decide)) (fun k_ hk => ⟨hk.1, hk.2⟩))))); (case aB => exact (by repeat (first | (with_reducible first | exact HB.out | apply below_alloc | apply pw_below_drewN | apply below_drew1) | exact HB.out))); (case aF => exact (fun k_ hk => (Nat.le_trans (below_size (by repeat (first | (with_reducible first | exact HB.out | apply below_alloc | apply pw_below_drewN | apply below_drew1) | exact HB.out))) hk))); (case aO => exact (by (with_reducible repeat (first | apply Kd.N_alloc | apply Kd.N_drewN | apply Kd.N_drew)); exact Kd.N_mono HO280.out (fun _ hk => hk.1))); (case aS => exact (below_size (by repeat (first | (with_reducible first | exact HB.out | apply below_alloc | apply pw_below_drewN | apply below_drew1) | exact HB.out)))); (case aL => have := LMc23.out; omega); intro v282 w33 ho hb hg hat; rw [← Ny281.out] at ho; have n0_ := Aside0.mk (Kd.N_afterv (ok := (fun k_ => (w.heap.size ≤ k_) ∧ some k_ ≠ (.slice Ao28 t266.length co28 : Value).ownBlock)) (by (with_reducible repeat (first | apply Kd.N_alloc | apply Kd.N_drewN | apply Kd.N_drew)); exact HO_5.out) hg hat); have n1_ := Aside0.mk (Kd.V_afterv (ok := (fun k_ => (w.heap.size ≤ k_) ∧ some k_ ≠ (.slice (some ad269) x5_1.length co27 : Value).ownBlock ∧ some k_ ≠ (.slice Ao28 t266.length co28 : Value).ownBlock)) (by (with_reducible repeat (first | apply Kd.V_alloc | apply Kd.V_drewN | apply Kd.V_drew)); exact Kd.V_mono HL269_0.out (fun _ hk => ⟨⟨hk.1.1.1, ⟨hk.1.2, hk.1.1.2⟩⟩, hk.2⟩)) hg hat); have n2_ := Aside0.mk (Kd.V_afterv (ok := (fun k_ => (w.heap.size ≤ k_) ∧ some k_ ≠ (.slice (some ad269) x5_1.length co27 : Value).ownBlock ∧ some k_ ≠ (.slice Ao28 t266.length co28 : Value).ownBlock)) (by (with_reducible repeat (first | apply Kd.V_alloc | apply Kd.V_drewN | apply Kd.V_drew)); exact Kd.V_mono HL271_0.out (fun _ hk => ⟨⟨hk.1.1.1, ⟨hk.1.2, hk.1.1.2⟩⟩, hk.2⟩)) hg hat); have n3_ := Aside0.mk (Kd.V_afterv (ok := (fun k_ => (w.heap.size ≤ k_) ∧ some k_ ≠ (.slice Ao28 t266.length co28 : Value).ownBlock)) (by (with_reducible repeat (first | apply Kd.V_alloc | apply Kd.V_drewN | apply Kd.V_drew)); exact HO277.out) hg hat); have n4_ := Aside0.mk (hb); have n5_ := Aside0.mk (ho); clear HO_5; clear HL269_0; clear HL271_0; clear HO277; clear HB; clear HO280; clear HO_7; have HO_5 := n0_; have HL269_0 := n1_; have HL271_0 := n2_; have HO277 := n3_; have HB := n4_; have HO283 := n5_; clear n0_ n1_ n2_ n3_ n4_ n5_; clear ho hb hg hat; have q34 : (x8_2 : Int) ≤ ((x5_1.length : Int) : Int) := of_decide_eq_true (by first | (with_reducible assumption) | assumption); obtain ⟨i034, hi034, _, hsz34, _⟩ := info_parts info31; have hroom34 : x5_1.length ≤ co27 := (Kd.N_reads' HO_5.out).2.1; have hC34 : Kd.F (Kd.slice 42 k42) _ _ (some ad269) x5_1.length x5_1 := (Kd.V_at (base := w.heap.size) (Kd.N_V HO_5.out)).2.2; have q034 : (0 : Int) ≤ (x8_2 : Int) := of_decide_eq_true (by first | (with_reducible assumption) | assumption); have hcut34 := cut_from (P := Try.prog) 22 31 .i64 Try.underlying22 hi034 1 hsz34 (some ad269) x5_1.length co27 x8_2 q034 q34; have hr34 := Kd.F_cut (m := (x8_2 : Int).toNat) (c := co27) hC34 (by omega) hroom34; obtain ⟨A34, hA34⟩ : ∃ A1, A1 = (if co27 = (x8_2 : Int).toNat then (some ad269) else ((some ad269) : Option Addr).map (·.add ((x8_2 : Int).toNat * 1))) := ⟨_, rfl⟩; obtain ⟨c34, hc34⟩ : ∃ c1, c1 = co27 - (x8_2 : Int).toNat := ⟨_, rfl⟩; have hy34 : y284.length = x5_1.length - (x8_2 : Int).toNat := (by rw [Ny284.out, List.length_drop] <;> omega); rw [show (x5_1).drop (x8_2 : Int).toNat = y284 from Ny284.out.symm] at hr34; replace hr34 : Kd.F (Kd.slice 42 k42) _ _ A34 y284.length y284 := (by rw [hA34]; exact hr34); rw [← hy34, ← hA34, ← hc34] at hcut34; have HO288 := Aside0.mk (show Kd.V (Kd.slice 42 k42) 31 _ w.heap.size _ (.slice A34 y284.length c34) y284 from Kd.V_mk (by rw [hy34, hc34]; exact Nat.sub_le_sub_right hroom34 _) hr34); have HC288 := Aside0.mk (show y284.length ≤ c34 from by rw [hy34, hc34]; exact Nat.sub_le_sub_right hroom34 _); clear hr34 hC34 hroom34 hi034 hsz34 hc34; have KY34 := Aside0.mk hy34; have KA34 := Aside0.mk hA34; clear hy34 hA34; replace q34 := eq_true q34) | ((with_reducible refine gate_builtin (b := .append) (xs := #[.tmp 59, .tmp 62]) rfl ?_); at_builtin; refine Kd.N_append_rows (Kd.slice 42 k42) (w0 := w) w.heap.size rfl (.tmp 59) (.tmp 62) 22 31 (.slice none 0 0) 24 rfl Try.underlying22 info31 rfl (by decide) (by omega) v282 y281 y284 _ _ _ (fun k_ => (w.heap.size ≤ k_)) (fun k_ => ((fun k_ => (w.heap.size ≤ k_))) k_ ∧ some k_ ≠ (v282 : Value).ownBlock) rfl rfl ?aO ?aR (fun _ hk => hk) ?aF ?aB ?aS ?aL ?_; (case aR => exact (by skip; exact Kd.V_F (Kd.V_mono (ok' := (fun k_ => ((fun k_ => (w.heap.size ≤ k_))) k_ ∧ some k_ ≠ (v282 : Value).ownBlock)) (HO288.out) (fun k_ hk => ⟨hk.1.1, hk.2⟩)))); (case aB => exact (by repeat (first | (with_reducible first | exact HB.out | apply below_alloc | apply pw_below_drewN | apply below_drew1) | exact HB.out))); (case aF => exact (fun k_ hk => (Nat.le_trans (below_size (by repeat (first | (with_reducible first | exact HB.out | apply below_alloc | apply pw_below_drewN | apply below_drew1) | exact HB.out))) hk))); (case aO => exact (by (with_reducible repeat (first | apply Kd.N_alloc | apply Kd.N_drewN | apply Kd.N_drew)); exact HO283.out)); (case aS => exact (below_size (by repeat (first | (with_reducible first | exact HB.out | apply below_alloc | apply pw_below_drewN | apply below_drew1) | exact HB.out)))); (case aL => have := LMc26.out; omega); intro v290 w35 ho hb hg hat; rw [← Ny289.out] at ho; have n0_ := Aside0.mk (Kd.N_afterv (ok := (fun k_ => (w.heap.size ≤ k_))) (by (with_reducible repeat (first | apply Kd.N_alloc | apply Kd.N_drewN | apply Kd.N_drew)); exact Kd.N_mono HO_5.out (fun _ hk => ⟨hk.1.1, hk.2⟩)) hg hat); have n1_ := Aside0.mk (Kd.V_afterv (ok := (fun k_ => (w.heap.size ≤ k_) ∧ some k_ ≠ (.slice (some ad269) x5_1.length co27 : Value).ownBlock)) (by (with_reducible repeat (first | apply Kd.V_alloc | apply Kd.V_drewN | apply Kd.V_drew)); exact Kd.V_mono HL269_0.out (fun _ hk => ⟨⟨hk.1.1, hk.1.2.1⟩, hk.2⟩)) hg hat); have n2_ := Aside0.mk (Kd.V_afterv (ok := (fun k_ => (w.heap.size ≤ k_) ∧ some k_ ≠ (.slice (some ad269) x5_1.length co27 : Value).ownBlock)) (by (with_reducible repeat (first | apply Kd.V_alloc | apply Kd.V_drewN | apply Kd.V_drew)); exact Kd.V_mono HL271_0.out (fun _ hk => ⟨⟨hk.1.1, hk.1.2.1⟩, hk.2⟩)) hg hat); have n3_ := Aside0.mk (Kd.V_afterv (ok := (fun k_ => (w.heap.size ≤ k_))) (by (with_reducible repeat (first | apply Kd.V_alloc | apply Kd.V_drewN | apply Kd.V_drew)); exact Kd.V_mono HO277.out (fun _ hk => ⟨hk.1.1, hk.2⟩)) hg hat); have n4_ := Aside0.mk (Kd.V_afterv (ok := (fun k_ => (w.heap.size ≤ k_))) (by (with_reducible repeat (first | apply Kd.V_alloc | apply Kd.V_drewN | apply Kd.V_drew)); exact Kd.V_mono HO288.out (fun _ hk => ⟨hk.1.1, hk.2⟩)) hg hat); have n5_ := Aside0.mk (hb); have n6_ := Aside0.mk (ho); clear HO_5; clear HL269_0; clear HL271_0; clear HO277; clear HO288; clear HB; clear HO283; have HO_5 := n0_; have HL269_0 := n1_; have HL271_0 := n2_; have HO277 := n3_; have HO288 := n4_; have HB := n5_; have HO291 := n6_; clear n0_ n1_ n2_ n3_ n4_ n5_ n6_; clear ho hb hg hat))
                              go_roundg k2
                              case measure => have := HK1.out; have := HK2.out; omega
                              case rel => exact ⟨(y289), (wrap64 (x6_1 + 1)), (by first | rfl | (simp; done) | (simp [*]; done)), H', ⟨by have := HK1.out; have := HK2.out; omega⟩, ⟨by (with_reducible repeat (first | apply Kd.N_alloc | apply Kd.N_drewN | apply Kd.N_drew)); exact HO291.out⟩, ⟨by repeat (first | (with_reducible first | exact HB.out | apply below_alloc | apply pw_below_drewN | apply below_drew1) | exact HB.out)⟩⟩
                            · rw [if_neg c26] at H
                              exact absurd H (by simp)
                          · rw [if_neg c23] at H
                            exact absurd H (by simp)
                        · rw [if_neg c22] at H
                          exact absurd H (by simp)
                      · rw [if_neg c21] at H
                        exact absurd H (by simp)
                · rw [if_neg c8] at H
                  exact absurd H (by simp)
              · rw [if_neg c7] at H
                have c7b0 : decide (x8_2 < (x5_1.length : Int)) = false := decide_eq_false c7
                clear c7
                by_cases c36 : 0 ≤ x8_2
                · rw [if_pos c36] at H
                  have c36b0 := eq_true c36
                  have c36b1 : decide (0 ≤ x8_2) = true := decide_eq_true c36
                  clear c36
                  by_cases c37 : x8_2 ≤ (x5_1.length : Int)
                  · rw [if_pos c37] at H
                    have c37b0 := eq_true c37
                    have c37b1 : decide (x8_2 ≤ (x5_1.length : Int)) = true := decide_eq_true c37
                    clear c37
                    obtain ⟨y292, hy292⟩ : ∃ y_ : List (List (S42)), y_ = (x5_1.take (x8_2 : Int).toNat) := ⟨_, rfl⟩
                    replace H : (if ([] : List (List (S42))).length + y292.length < 5864062014805 then ((some (([] : List (List (S42))) ++ y292 : List (List (S42)))).bind fun y297 => (if y297.length < 5864062014805 then ((some (y297 ++ [t266] : List (List (S42)))).bind fun y300 => ((some (x5_1.drop (x8_2 : Int).toNat : List (List (S42)))).bind fun y303 => (if y300.length + y303.length < 5864062014805 then (hayloftref15_keys.l0 k2 l0 l1 (y300 ++ y303) (wrap64 (x6_1 + 1))) else (none)))) else (none))) else (none)) = some r := by first | (rw [hy292]; with_reducible exact H) | (have H2_ := (Option.bind_some _ _).symm.trans H; rw [hy292]; with_reducible exact H2_) | (have H2_ := (Option.bind_some _ _).symm.trans H; with_reducible exact H2_) | with_reducible exact H | (rw [hy292]; exact H) | exact H
                    have Ny292 := Aside0.mk hy292
                    clear hy292
                    by_cases c38 : ([] : List (List (S42))).length + y292.length < 5864062014805
                    · rw [if_pos c38] at H
                      have LMc38 := Aside0.mk c38
                      clear c38
                      obtain ⟨y297, hy297⟩ : ∃ y_ : List (List (S42)), y_ = (([] : List (List (S42))) ++ y292) := ⟨_, rfl⟩
                      replace H : (if y297.length < 5864062014805 then ((some (y297 ++ [t266] : List (List (S42)))).bind fun y300 => ((some (x5_1.drop (x8_2 : Int).toNat : List (List (S42)))).bind fun y303 => (if y300.length + y303.length < 5864062014805 then (hayloftref15_keys.l0 k2 l0 l1 (y300 ++ y303) (wrap64 (x6_1 + 1))) else (none)))) else (none)) = some r := by first | (rw [hy297]; with_reducible exact H) | (have H2_ := (Option.bind_some _ _).symm.trans H; rw [hy297]; with_reducible exact H2_) | (have H2_ := (Option.bind_some _ _).symm.trans H; with_reducible exact H2_) | with_reducible exact H | (rw [hy297]; exact H) | exact H
                      have Ny297 := Aside0.mk hy297
                      clear hy297
                      by_cases c39 : y297.length < 5864062014805
                      · rw [if_pos c39] at H
                        have LMc39 := Aside0.mk c39
                        clear c39
                        obtain ⟨y300, hy300⟩ : ∃ y_ : List (List (S42)), y_ = (y297 ++ [t266]) := ⟨_, rfl⟩
                        replace H : ((some (x5_1.drop (x8_2 : Int).toNat : List (List (S42)))).bind fun y303 => (if y300.length + y303.length < 5864062014805 then (hayloftref15_keys.l0 k2 l0 l1 (y300 ++ y303) (wrap64 (x6_1 + 1))) else (none))) = some r := by first | (rw [hy300]; with_reducible exact H) | (have H2_ := (Option.bind_some _ _).symm.trans H; rw [hy300]; with_reducible exact H2_) | (have H2_ := (Option.bind_some _ _).symm.trans H; with_reducible exact H2_) | with_reducible exact H | (rw [hy300]; exact H) | exact H
                        have Ny300 := Aside0.mk hy300
                        clear hy300
                        have c40b0 := eq_true (of_decide_eq_true (by first | (with_reducible assumption) | assumption) : 0 ≤ x8_2)
                        have c41b0 := eq_true (of_decide_eq_true (by first | (with_reducible assumption) | assumption) : x8_2 ≤ (x5_1.length : Int))
                        obtain ⟨y303, hy303⟩ : ∃ y_ : List (List (S42)), y_ = (x5_1.drop (x8_2 : Int).toNat) := ⟨_, rfl⟩
                        replace H : (if y300.length + y303.length < 5864062014805 then (hayloftref15_keys.l0 k2 l0 l1 (y300 ++ y303) (wrap64 (x6_1 + 1))) else (none)) = some r := by first | (rw [hy303]; with_reducible exact H) | (have H2_ := (Option.bind_some _ _).symm.trans H; rw [hy303]; with_reducible exact H2_) | (have H2_ := (Option.bind_some _ _).symm.trans H; with_reducible exact H2_) | with_reducible exact H | (rw [hy303]; exact H) | exact H
                        have Ny303 := Aside0.mk hy303
                        clear hy303
                        by_cases c42 : y300.length + y303.length < 5864062014805
                        · rw [if_pos c42] at H
                          have LMc42 := Aside0.mk c42
                          clear c42
                          obtain ⟨y308, hy308⟩ : ∃ y_ : List (List (S42)), y_ = (y300 ++ y303) := ⟨_, rfl⟩
                          replace H : (hayloftref15_keys.l0 k2 l0 l1 y308 (wrap64 (x6_1 + 1))) = some r := by first | (rw [hy308]; with_reducible exact H) | (have H2_ := (Option.bind_some _ _).symm.trans H; rw [hy308]; with_reducible exact H2_) | (have H2_ := (Option.bind_some _ _).symm.trans H; with_reducible exact H2_) | with_reducible exact H | (rw [hy308]; exact H) | exact H
                          have Ny308 := Aside0.mk hy308
                          clear hy308
                          have H' := Aside0.mk H
                          clear H
                          obtain ⟨Ao43, co43, eo43⟩ := Kd.N_slice HO_5.out
                          subst eo43
                          have q44 : (x8_2 : Int) ≤ ((x5_1.length : Int) : Int) := of_decide_eq_true (by first | (with_reducible assumption) | assumption)
                          obtain ⟨i044, hi044, _, hsz44, _⟩ := info_parts info31
                          have hroom44 : x5_1.length ≤ co43 := (Kd.N_reads' HO_5.out).2.1
                          have hC44 : Kd.F (Kd.slice 42 k42) _ _ Ao43 x5_1.length x5_1 := (Kd.V_at (base := w.heap.size) (Kd.N_V HO_5.out)).2.2
                          have hcut44 := cut_to (P := Try.prog) 22 31 .i64 Try.underlying22 hi044 Ao43 x5_1.length co43 x8_2 (of_decide_eq_true (by first | (with_reducible assumption) | assumption)) q44 hroom44
                          have hr44 := Kd.F_take (m := (x8_2 : Int).toNat) hC44 (by omega)
                          have hy44 : y292.length = (x8_2 : Int).toNat := (by rw [Ny292.out, List.length_take]; omega)
                          rw [← Ny292.out] at hr44
                          rw [← hy44] at hcut44
                          have HO296 := Aside0.mk (show Kd.V (Kd.slice 42 k42) 31 _ w.heap.size _ (.slice Ao43 y292.length co43) y292 from Kd.V_mk (by omega) hr44)
                          have HC296 := Aside0.mk (show y292.length ≤ co43 from by omega)
                          clear hr44 hC44 hroom44 hi044 hsz44
                          have KY44 := Aside0.mk hy44
                          clear hy44
                          replace q44 := eq_true q44
                          go_wp2_with (first | ((with_reducible refine gate_builtin (b := .append) (xs := #[.tmp 50, .tmp 53]) rfl ?_); at_builtin; refine Kd.N_append_rows (Kd.slice 42 k42) (w0 := w) w.heap.size rfl (.tmp 50) (.tmp 53) 22 31 (.slice none 0 0) 24 rfl Try.underlying22 info31 rfl (by decide) (by omega) (.slice none 0 0) ([] : List (List (S42))) y292 _ _ _ (fun k_ => (w.heap.size ≤ k_) ∧ some k_ ≠ (v267 : Value).ownBlock) (fun k_ => ((fun k_ => (w.heap.size ≤ k_) ∧ some k_ ≠ (v267 : Value).ownBlock)) k_ ∧ some k_ ≠ (.slice none 0 0 : Value).ownBlock) rfl rfl ?aO ?aR (fun _ hk => hk) ?aF ?aB ?aS ?aL ?_; (case aR => exact (by skip; exact Kd.V_F (Kd.V_mono (ok' := (fun k_ => ((fun k_ => (w.heap.size ≤ k_) ∧ some k_ ≠ (v267 : Value).ownBlock)) k_ ∧ some k_ ≠ (.slice none 0 0 : Value).ownBlock)) (HO296.out) (fun k_ hk => ⟨⟨hk.1, hk.2⟩, (by simp [Value.ownBlock])⟩)))); (case aB => exact (by repeat (first | (with_reducible first | exact HB.out | apply below_alloc | apply pw_below_drewN | apply below_drew1) | exact HB.out))); (case aF => exact (fun k_ hk => ⟨(Nat.le_trans (below_size (by repeat (first | (with_reducible first | exact HB.out | apply below_alloc | apply pw_below_drewN | apply below_drew1) | exact HB.out))) hk), Kd.fresh' (Kd.R_lt (by (with_reducible repeat (first | apply Kd.R_alloc | apply Kd.R_drewN | apply Kd.R_drew)); exact HO_7.out)) k_ hk⟩)); (case aO => exact ((Kd.N_nil _ _ _ _ (fun k_ => (w.heap.size ≤ k_) ∧ some k_ ≠ (v267 : Value).ownBlock)))); (case aS => exact (below_size (by repeat (first | (with_reducible first | exact HB.out | apply below_alloc | apply pw_below_drewN | apply below_drew1) | exact HB.out)))); (case aL => have := LMc38.out; omega); intro v298 w45 ho hb hg hat; rw [← Ny297.out] at ho; have n0_ := Aside0.mk (Kd.N_afterv (Kd.N_apart_nil (by (with_reducible repeat (first | apply Kd.N_alloc | apply Kd.N_drewN | apply Kd.N_drew)); exact HO_5.out)) hg hat); have n1_ := Aside0.mk (Kd.R_grown (by (with_reducible repeat (first | apply Kd.R_alloc | apply Kd.R_drewN | apply Kd.R_drew)); exact HO_7.out) hg (fun _ _ => by simp [Value.ownBlock])); have n2_ := Aside0.mk (Kd.V_afterv (Kd.V_apart_nil (by (with_reducible repeat (first | apply Kd.V_alloc | apply Kd.V_drewN | apply Kd.V_drew)); exact HO296.out)) hg hat); have n3_ := Aside0.mk (hb); have n4_ := Aside0.mk (ho); clear HO_5; clear HO_7; clear HO296; clear HB; have HO_5 := n0_; have HO_7 := n1_; have HO296 := n2_; have HB := n3_; have HO299 := n4_; clear n0_ n1_ n2_ n3_ n4_; clear ho hb hg hat; obtain ⟨Ao47, co47, eo47⟩ := Kd.R_slice HO_7.out; subst eo47) | ((with_reducible refine gate_builtin (b := .append) (xs := #[.tmp 55, .tmp 57]) rfl ?_); at_builtin; refine Kd.N_append (Kd.slice 42 k42) (w0 := w) w.heap.size rfl (.tmp 55) (.tmp 57) 22 31 (.slice none 0 0) 24 rfl Try.underlying22 info31 rfl (by decide) (by omega) v298 y297 t266 [.slice Ao47 t266.length co47] (fun k_ => (w.heap.size ≤ k_)) (fun k_ => ((fun k_ => (w.heap.size ≤ k_))) k_ ∧ some k_ ≠ (v298 : Value).ownBlock) rfl rfl ?aP (fun _ hk => hk) ?aF ?aO ?aB ?aS ?aL ?_; (case aP => exact (Kd.FK_slice_mk (Kd.R_reads' (Kd.R_mono (ok' := (fun k_ => ((fun k_ => (w.heap.size ≤ k_))) k_ ∧ some k_ ≠ (v298 : Value).ownBlock)) (Kd.R_apart' (HO_7.out) (Kd.N_typed HO299.out) (by decide)) (fun k_ hk => ⟨hk.1, hk.2⟩))).2.1 (Kd.R_F (Kd.R_mono (ok' := (fun k_ => ((fun k_ => (w.heap.size ≤ k_))) k_ ∧ some k_ ≠ (v298 : Value).ownBlock)) (Kd.R_apart' (HO_7.out) (Kd.N_typed HO299.out) (by decide)) (fun k_ hk => ⟨hk.1, hk.2⟩))))); (case aB => exact (by repeat (first | (with_reducible first | exact HB.out | apply below_alloc | apply pw_below_drewN | apply below_drew1) | exact HB.out))); (case aF => exact (fun k_ hk => (Nat.le_trans (below_size (by repeat (first | (with_reducible first | exact HB.out | apply below_alloc | apply pw_below_drewN | apply below_drew1) | exact HB.out))) hk))); (case aO => exact (by (with_reducible repeat (first | apply Kd.N_alloc | apply Kd.N_drewN | apply Kd.N_drew)); exact Kd.N_mono HO299.out (fun _ hk => hk.1))); (case aS => exact (below_size (by repeat (first | (with_reducible first | exact HB.out | apply below_alloc | apply pw_below_drewN | apply below_drew1) | exact HB.out)))); (case aL => have := LMc39.out; omega); intro v301 w46 ho hb hg hat; rw [← Ny300.out] at ho; have n0_ := Aside0.mk (Kd.N_afterv (ok := (fun k_ => (w.heap.size ≤ k_) ∧ some k_ ≠ (.slice Ao47 t266.length co47 : Value).ownBlock)) (by (with_reducible repeat (first | apply Kd.N_alloc | apply Kd.N_drewN | apply Kd.N_drew)); exact HO_5.out) hg hat); have n1_ := Aside0.mk (Kd.V_afterv (ok := (fun k_ => (w.heap.size ≤ k_) ∧ some k_ ≠ (.slice Ao47 t266.length co47 : Value).ownBlock)) (by (with_reducible repeat (first | apply Kd.V_alloc | apply Kd.V_drewN | apply Kd.V_drew)); exact HO296.out) hg hat); have n2_ := Aside0.mk (hb); have n3_ := Aside0.mk (ho); clear HO_5; clear HO296; clear HB; clear HO299; clear HO_7; have HO_5 := n0_; have HO296 := n1_; have HB := n2_; have HO302 := n3_; clear n0_ n1_ n2_ n3_; clear ho hb hg hat; have q48 : (x8_2 : Int) ≤ ((x5_1.length : Int) : Int) := of_decide_eq_true (by first | (with_reducible assumption) | assumption); obtain ⟨i048, hi048, _, hsz48, _⟩ := info_parts info31; have hroom48 : x5_1.length ≤ co43 := (Kd.N_reads' HO_5.out).2.1; have hC48 : Kd.F (Kd.slice 42 k42) _ _ Ao43 x5_1.length x5_1 := (Kd.V_at (base := w.heap.size) (Kd.N_V HO_5.out)).2.2; have q048 : (0 : Int) ≤ (x8_2 : Int) := of_decide_eq_true (by first | (with_reducible assumption) | assumption); have hcut48 := cut_from (P := Try.prog) 22 31 .i64 Try.underlying22 hi048 1 hsz48 Ao43 x5_1.length co43 x8_2 q048 q48; have hr48 := Kd.F_cut (m := (x8_2 : Int).toNat) (c := co43) hC48 (by omega) hroom48; obtain ⟨A48, hA48⟩ : ∃ A1, A1 = (if co43 = (x8_2 : Int).toNat then Ao43 else (Ao43 : Option Addr).map (·.add ((x8_2 : Int).toNat * 1))) := ⟨_, rfl⟩; obtain ⟨c48, hc48⟩ : ∃ c1, c1 = co43 - (x8_2 : Int).toNat := ⟨_, rfl⟩; have hy48 : y303.length = x5_1.length - (x8_2 : Int).toNat := (by rw [Ny303.out, List.length_drop] <;> omega); rw [show (x5_1).drop (x8_2 : Int).toNat = y303 from Ny303.out.symm] at hr48; replace hr48 : Kd.F (Kd.slice 42 k42) _ _ A48 y303.length y303 := (by rw [hA48]; exact hr48); rw [← hy48, ← hA48, ← hc48] at hcut48; have HO307 := Aside0.mk (show Kd.V (Kd.slice 42 k42) 31 _ w.heap.size _ (.slice A48 y303.length c48) y303 from Kd.V_mk (by rw [hy48, hc48]; exact Nat.sub_le_sub_right hroom48 _) hr48); have HC307 := Aside0.mk (show y303.length ≤ c48 from by rw [hy48, hc48]; exact Nat.sub_le_sub_right hroom48 _); clear hr48 hC48 hroom48 hi048 hsz48 hc48; have KY48 := Aside0.mk hy48; have KA48 := Aside0.mk hA48; clear hy48 hA48; replace q48 := eq_true q48) | ((with_reducible refine gate_builtin (b := .append) (xs := #[.tmp 59, .tmp 62]) rfl ?_); at_builtin; refine Kd.N_append_rows (Kd.slice 42 k42) (w0 := w) w.heap.size rfl (.tmp 59) (.tmp 62) 22 31 (.slice none 0 0) 24 rfl Try.underlying22 info31 rfl (by decide) (by omega) v301 y300 y303 _ _ _ (fun k_ => (w.heap.size ≤ k_)) (fun k_ => ((fun k_ => (w.heap.size ≤ k_))) k_ ∧ some k_ ≠ (v301 : Value).ownBlock) rfl rfl ?aO ?aR (fun _ hk => hk) ?aF ?aB ?aS ?aL ?_; (case aR => exact (by skip; exact Kd.V_F (Kd.V_mono (ok' := (fun k_ => ((fun k_ => (w.heap.size ≤ k_))) k_ ∧ some k_ ≠ (v301 : Value).ownBlock)) (HO307.out) (fun k_ hk => ⟨hk.1.1, hk.2⟩)))); (case aB => exact (by repeat (first | (with_reducible first | exact HB.out | apply below_alloc | apply pw_below_drewN | apply below_drew1) | exact HB.out))); (case aF => exact (fun k_ hk => (Nat.le_trans (below_size (by repeat (first | (with_reducible first | exact HB.out | apply below_alloc | apply pw_below_drewN | apply below_drew1) | exact HB.out))) hk))); (case aO => exact (by (with_reducible repeat (first | apply Kd.N_alloc | apply Kd.N_drewN | apply Kd.N_drew)); exact HO302.out)); (case aS => exact (below_size (by repeat (first | (with_reducible first | exact HB.out | apply below_alloc | apply pw_below_drewN | apply below_drew1) | exact HB.out)))); (case aL => have := LMc42.out; omega); intro v309 w49 ho hb hg hat; rw [← Ny308.out] at ho; have n0_ := Aside0.mk (Kd.N_afterv (ok := (fun k_ => (w.heap.size ≤ k_))) (by (with_reducible repeat (first | apply Kd.N_alloc | apply Kd.N_drewN | apply Kd.N_drew)); exact Kd.N_mono HO_5.out (fun _ hk => ⟨hk.1.1, hk.2⟩)) hg hat); have n1_ := Aside0.mk (Kd.V_afterv (ok := (fun k_ => (w.heap.size ≤ k_))) (by (with_reducible repeat (first | apply Kd.V_alloc | apply Kd.V_drewN | apply Kd.V_drew)); exact Kd.V_mono HO296.out (fun _ hk => ⟨hk.1.1, hk.2⟩)) hg hat); have n2_ := Aside0.mk (Kd.V_afterv (ok := (fun k_ => (w.heap.size ≤ k_))) (by (with_reducible repeat (first | apply Kd.V_alloc | apply Kd.V_drewN | apply Kd.V_drew)); exact Kd.V_mono HO307.out (fun _ hk => ⟨hk.1.1, hk.2⟩)) hg hat); have n3_ := Aside0.mk (hb); have n4_ := Aside0.mk (ho); clear HO_5; clear HO296; clear HO307; clear HB; clear HO302; have HO_5 := n0_; have HO296 := n1_; have HO307 := n2_; have HB := n3_; have HO310 := n4_; clear n0_ n1_ n2_ n3_ n4_; clear ho hb hg hat))
                          go_roundg k2
                          case measure => have := HK1.out; have := HK2.out; omega
                          case rel => exact ⟨(y308), (wrap64 (x6_1 + 1)), (by first | rfl | (simp; done) | (simp [*]; done)), H', ⟨by have := HK1.out; have := HK2.out; omega⟩, ⟨by (with_reducible repeat (first | apply Kd.N_alloc | apply Kd.N_drewN | apply Kd.N_drew)); exact HO310.out⟩, ⟨by repeat (first | (with_reducible first | exact HB.out | apply below_alloc | apply pw_below_drewN | apply below_drew1) | exact HB.out)⟩⟩
                        · rw [if_neg c42] at H
                          exact absurd H (by simp)
                      · rw [if_neg c39] at H
                        exact absurd H (by simp)
                    · rw [if_neg c38] at H
                      exact absurd H (by simp)
                  · rw [if_neg c37] at H
                    exact absurd H (by simp)
                · rw [if_neg c36] at H
                  exact absurd H (by simp)
        · rw [if_neg c4] at H
          exact absurd H (by simp)
      · rw [if_neg c3] at H
        have c3b0 : decide (x6_1 < (l0.length : Int)) = false := decide_eq_false c3
        clear c3
        obtain rfl := Option.some.inj H
        go_wp2
        go_ret
        exact ⟨_, by first | rfl | (simp [errW_none, errW_some] <;> rfl) | (simp [*, errW_none, errW_some] <;> rfl), by (with_reducible repeat (first | apply Kd.N_alloc | apply Kd.N_drewN | apply Kd.N_drew)); exact HO_5.out, by repeat (first | (with_reducible first | exact HB.out | apply below_alloc | apply pw_below_drewN | apply below_drew1) | exact HB.out)⟩

end Go.Proofs.Ytghblnldokpceaa.QV
