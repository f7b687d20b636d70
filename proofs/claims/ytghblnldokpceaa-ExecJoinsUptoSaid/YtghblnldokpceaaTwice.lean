/- slices.Values, exec.Join as functions; hayloftlaw15.twice over what an iterator gives. -/
import Derived.Test.YtghblnldokpceaaSame
namespace Go.Proofs.Ytghblnldokpceaa.QV
open Go.RowKit Go.Proofs.YtghblnldokpceaaW.PrintWords Go.Proofs.Ytghblnldokpceaa.Seq Go.Shelf Go.Proofs.Ytghblnldokpceaa.Op
set_option linter.unusedVariables false
set_option linter.unusedSimpArgs false
attribute [local go_sem] Oper.semAt_some

theorem values_is (A : Option Addr) (xs : List Row) (c : Nat) (w : World) (hr : kRows.C w A xs.length xs) :
    Calls Try.prog 13 #[.slice A xs.length c] w fun e w' => ∃ v, e = .returned v ∧ IsSeq w' v xs ∧ Below w.heap.size w w' := by
  refine (values_any (.slice A xs.length c) ⟨_, _, _, rfl⟩ w).mono ?_
  rintro e w' ⟨rfl, hw'⟩
  have hb : Below w.heap.size w w' := by rw [hw']; exact below_alloc (Below.refl _ _) _
  refine ⟨_, rfl, ⟨_, _, RdOld w', rfl, fun args w => rfl, values_seq A xs c w.heap.size w' ?_ ?_ (Kd.C_below hr hb), fun A B N x vs h hk => h.kept hk, fun A N x vs h => ?_⟩, hb⟩
  · rw [hw']; simp
  · rw [hw']; exact blk_cell (blk_new _ _) 0
  · obtain ⟨_, hA, Ad, c, rfl, hle, hC⟩ := h
    exact ⟨Ad, c, rfl, hle, Kd.C_below hC hA⟩

/-- An iterator's value whose rows are its consumer's own. -/
def IsOwn (w : World) (sv : Value) (xs : List Row) : Prop := ∃ g lb, sv = .func (.func g) #[] lb ∧ (∀ args w, (callFunc g args).run Try.prog w = .ok (.enter g args) w) ∧ SeqOf Try.prog g lb (RdNew w) xs w
theorem IsOwn.seq {w : World} {sv : Value} {xs : List Row} (h : IsOwn w sv xs) : IsSeq w sv xs := by
  obtain ⟨g, lb, h1, h2, h3⟩ := h
  exact ⟨g, lb, RdNew w, h1, h2, h3, fun A B N x vs h hk => h.kept hk, fun A N x vs h => h.reads⟩

set_option maxHeartbeats 1000000 in
theorem join_is (left right : List Row) (lo ro : Int) (svL svR : Value) (w : World) (hL : IsSeq w svL left) (hR : IsSeq w svR right)
    (hbR : ∀ x ∈ right, x.length ≤ 1048576) (hbL : ∀ x ∈ left, x.length ≤ 1048576) (hnR : right.length ≤ 1048576) :
    Calls Try.prog 12 #[svL, svR, .int .i64 lo, .int .i64 ro] w fun e w' => ∃ v, e = .returned v ∧ IsOwn w' v (joinL left right lo ro) ∧ Below w.heap.size w w' := by
  have HL := Lib.hid hL
  have HR := Lib.hid hR
  obtain ⟨gL, lbL, RdL, rfl, qL⟩ := hL
  obtain ⟨gR, lbR, RdR, rfl, qR⟩ := hR
  have hL : IsSeq w (.func (.func gL) #[] lbL) left := ⟨gL, lbL, RdL, rfl, qL⟩
  have hR : IsSeq w (.func (.func gR) #[] lbR) right := ⟨gR, lbR, RdR, rfl, qR⟩
  clear qL qR HL HR
  go_enter Try.func12, Try.ntmps12
  go_wp2
  go_ret
  obtain ⟨w', hw'⟩ : ∃ w', (((w.alloc (.cells #[.func (.func gL) #[] lbL] 28)).alloc (.cells #[.func (.func gR) #[] lbR] 28)).alloc (.cells #[.int .i64 lo] 3)).alloc (.cells #[.int .i64 ro] 3) = w' := ⟨_, rfl⟩
  rw [hw']
  have hb : Below w.heap.size w w' := by rw [← hw']; exact below_alloc (below_alloc (below_alloc (below_alloc (Below.refl _ _) _) _) _) _
  have g0 : w'.heap[w.heap.size]? = some (.cells #[.func (.func gL) #[] lbL] 28 (0, 0)) := by rw [← hw']; exact blk_alloc (blk_alloc (blk_alloc (blk_new _ _) _) _) _
  have g1 : w'.heap[w.heap.size + 1]? = some (.cells #[.func (.func gR) #[] lbR] 28 (0, 0)) := by
    have := blk_new (w.alloc (.cells #[.func (.func gL) #[] lbL] 28)) (.cells #[.func (.func gR) #[] lbR] 28)
    rw [World.size_alloc] at this
    rw [← hw']; exact blk_alloc (blk_alloc this _) _
  have g2 : w'.heap[w.heap.size + 2]? = some (.cells #[.int .i64 lo] 3 (0, 0)) := by
    have := blk_new ((w.alloc (.cells #[.func (.func gL) #[] lbL] 28)).alloc (.cells #[.func (.func gR) #[] lbR] 28)) (.cells #[.int .i64 lo] 3)
    rw [World.size_alloc, World.size_alloc] at this
    rw [← hw']; exact blk_alloc this _
  have g3 : w'.heap[w.heap.size + 3]? = some (.cells #[.int .i64 ro] 3 (0, 0)) := by
    have := blk_new (((w.alloc (.cells #[.func (.func gL) #[] lbL] 28)).alloc (.cells #[.func (.func gR) #[] lbR] 28)).alloc (.cells #[.int .i64 lo] 3)) (.cells #[.int .i64 ro] 3)
    rw [World.size_alloc, World.size_alloc, World.size_alloc] at this
    rw [← hw']; exact this
  exact ⟨_, rfl, ⟨_, _, rfl, fun args w => rfl, join_seq left right lo ro (.func (.func gL) #[] lbL) (.func (.func gR) #[] lbR) _ _ _ _ w' (hL.later hb) (hR.later hb) (blk_cell g1 0) (blk_cell g3 0) (blk_cell g0 0) (blk_cell g2 0) hbR hbL hnR⟩, hb⟩
set_option maxRecDepth 100000 in
set_option maxHeartbeats 2000000 in
theorem twice_any (sv : Value) (xs : List Row) (A0 : Option Addr) (c : Nat) (w0 w : World) (hs : IsOwn w0 sv xs) (hb0 : Below w0.heap.size w0 w) (hr : kRows.C w A0 xs.length xs) (hc : xs.length ≤ c) (hx : ∀ x ∈ xs, x.length * 40 ≤ 140737488351232) (hn : xs.length * 24 ≤ 140737488351232) :
    Calls Try.prog 11 #[sv, .slice A0 xs.length c] w fun e w' => e = .returned (.bool true) ∧ Below w.heap.size w w' := by
  obtain ⟨g, lb, rfl, eg, hseq⟩ := hs
  have hfn := fun (w : World) => run_func_nil (P := Try.prog) Try.underlying28 (.func g) lb w
  refine (callsIn_wide (n := 0)).1 (callsIn_of_wp_marks Try.func11 rfl trivial ?_ rfl)
  simp only [Try.ntmps11, List.size_toArray, List.length_cons, List.length_nil, Nat.reduceAdd, Nat.reduceSub, Array.replicate_succ, Array.replicate_zero, List.push_toArray, List.append_toArray, List.nil_append, List.cons_append]
  gi_wp2
  obtain ⟨w1, hw1⟩ : ∃ w1, w.alloc (.cells #[.int .i64 0] 3) = w1 := ⟨_, rfl⟩
  rw [hw1]
  have hb1 : Below w.heap.size w w1 := by rw [← hw1]; exact below_alloc (Below.refl _ _) _
  have hx5 : w1.heap[w.heap.size]? = some (.cells #[.int .i64 0] 3 (0, 0)) := by rw [← hw1]; exact blk_new _ _
  have hz1 : w1.heap.size = w.heap.size + 1 := by rw [← hw1]; simp
  clear hw1
  have hz : w0.heap.size ≤ w.heap.size := hb0.size
  refine wpIn_range (gf := g) (lb := lb) rfl eg hseq (hb0.trans (hb1.mono hz)) (fun A N x vs h => by obtain ⟨v, rfl, _⟩ := h; rfl) (fun A B N x vs h hk => h.kept hk)
    (fun pre M A => M w.heap.size ∧ pre.length < 2 ∧ A.heap[w.heap.size]? = some (.cells #[.int .i64 pre.length] 3 (0, 0))) (fun c _ _ _ => c = .exit 0) (fun pre M A B h hk => ⟨h.1, h.2.1, hk.at h.2.2 (fun k => k.2 h.1)⟩) (fun _ _ _ _ _ h _ => h)
    (fun i => i = w.heap.size) ?hM ?h0 (fun x vs a₁ M A => ∃ v, vs = #[v] ∧ a₁ = { tmps := #[.func (.func g) #[] lb, .slice A0 xs.length c, undef, undef, .bool false, .pointer (some ⟨w.heap.size, 0, none⟩), .func (.func g) #[] lb, .bool false, .func (.func g) #[] lb, v] ++ Array.replicate 14 undef, defers := [] })
    (fun _ _ _ _ _ _ h _ => h) ?assign ?body ?done ?stop
  case hM => intro i hi; omega
  case h0 => exact ⟨rfl, by simp, hx5⟩
  case assign =>
    intro l pre x vs N A M hI hpre hrd hM hN
    obtain ⟨v, rfl, hv⟩ := hrd
    gi_wp2
    refine ⟨M, fun i hi => ⟨.inl hi, (hM i hi).2⟩, Kpt.refl _ _, hI, v, rfl, ?_⟩
    simp only [List.size_toArray, List.length_cons, List.length_nil, Nat.reduceAdd, Nat.reduceSub, Array.replicate_succ, Array.replicate_zero, List.push_toArray, List.append_toArray, List.nil_append, List.cons_append]
    simp
  case body =>
    intro l pre x vs N A M a₁ hI hpre hrd hax hM hN
    obtain ⟨v, rfl, rfl⟩ := hax
    simp only [List.size_toArray, List.length_cons, List.length_nil, Nat.reduceAdd, Nat.reduceSub, Array.replicate_succ, Array.replicate_zero, List.push_toArray, List.append_toArray, List.nil_append, List.cons_append]
    obtain ⟨hMB, hpl, hbx⟩ := hI
    have c0 : A.cell? ⟨w.heap.size, 0, none⟩ = some (.int .i64 pre.length) := blk_cell hbx 0
    have f0 : A.frozen? ⟨w.heap.size, 0, none⟩ = false := blk_frozen hbx 0
    have hlt := blk_lt hbx
    have st : ∀ u : Value, Kpt (fun i => M i ∨ N i) A (A.setCell ⟨w.heap.size, 0, none⟩ u) := fun u => (Kpt.setCell A ⟨w.heap.size, 0, none⟩ u).mono (fun i _ e => .inl (by have e' : i = w.heap.size := e; rw [e']; exact hMB))
    rcases (by omega : pre.length = 0 ∨ pre.length = 1) with h | h
    · rw [h] at c0
      gi_wp2
      refine ⟨M, fun i hi => ⟨.inl hi, by simpa using (hM i hi).2⟩, st _, hMB, by simp; omega, ?_⟩
      simpa [h] using blk_set hbx 0 (.int .i64 1)
    · rw [h] at c0
      gi_wp2
      exact ⟨M, fun i hi => ⟨.inl hi, by simpa using (hM i hi).2⟩, st _, rfl⟩
  case done =>
    intro D W M' hI hk hM' hD hDw hDM
    have hx' : ∀ x ∈ xs, x.length ≤ 9223372036854775807 := fun x h => by have := hx x h; omega
    obtain ⟨ks, hsame⟩ := same_self xs (by omega) hx'
    have hBW : Below w.heap.size w W := hb1.trans (hk.below (by omega) (fun i _ e => by omega))
    gi_wp2
    refine ⟨trivial, rfl, callsIn_wide.2 ((all_any g lb xs w0 W eg hseq (hb0.trans (hBW.mono hz)) hx hn).mono ?_)⟩
    rintro e W2 ⟨v, rfl, hS, hb2⟩
    obtain ⟨A1, c1, rfl, hle1, hC1⟩ := Kd.S_reads hS
    have hB2 : Below w.heap.size w W2 := hBW.trans (hb2.mono hBW.size)
    gi_wp2
    refine ⟨trivial, rfl, callsIn_wide.2 ((hayloftref02_SameAll.calls ks A1 c1 xs A0 c xs true W2 hC1 hle1 (Kd.C_below hr hB2) hc hsame).mono ?_)⟩
    rintro e W3 ⟨rfl, hd3⟩
    have hB3 : Below w.heap.size w W3 := hB2.trans (hd3.below.mono hB2.size)
    gi_wp2
    refine ⟨trivial, rfl, callsIn_wide.2 ((all_any g lb xs w0 W3 eg hseq (hb0.trans (hB3.mono hz)) hx hn).mono ?_)⟩
    rintro e W4 ⟨v, rfl, hS4, hb4⟩
    obtain ⟨A2, c2, rfl, hle2, hC2⟩ := Kd.S_reads hS4
    have hB4 : Below w.heap.size w W4 := hB3.trans (hb4.mono hB3.size)
    gi_wp2
    refine ⟨trivial, rfl, callsIn_wide.2 ((hayloftref02_SameAll.calls ks A2 c2 xs A0 c xs true W4 hC2 hle2 (Kd.C_below hr hB4) hc hsame).mono ?_)⟩
    rintro e W5 ⟨rfl, hd5⟩
    have hB5 : Below w.heap.size w W5 := hB4.trans (hd5.below.mono hB4.size)
    gi_wp2
    have hzW := hBW.size
    have hDlt := (Array.getElem?_eq_some_iff.1 hD).1
    have hDk : W5.heap[D]? = some (.deferred (some [])) := by
      rw [(((hb2.trans (hd3.below.mono hb2.size)).trans (hb4.mono (by have := hb2.size; have := hd3.below.size; omega))).trans (hd5.below.mono (by have := hb2.size; have := hd3.below.size; have := hb4.size; omega))).block D hDlt]; exact hD
    refine ⟨by simp, .inl ⟨_, _, rfl, run_takeDeferred hDk, ?_⟩⟩
    exact ⟨_, results_tmp rfl _ _ _, rfl, hB5.trans ((Kpt.putObj W5 D (.deferred none)).below hB5.size (fun i _ e => by omega))⟩
  case stop =>
    intro D cc pre W M' hpre hI hk hM' hD hDw hDM
    obtain rfl := hI
    have hx' : ∀ x ∈ xs, x.length ≤ 9223372036854775807 := fun x h => by have := hx x h; omega
    obtain ⟨ks, hsame⟩ := same_self xs (by omega) hx'
    have hBW : Below w.heap.size w W := hb1.trans (hk.below (by omega) (fun i _ e => by omega))
    gi_wp2
    refine ⟨trivial, rfl, callsIn_wide.2 ((all_any g lb xs w0 W eg hseq (hb0.trans (hBW.mono hz)) hx hn).mono ?_)⟩
    rintro e W2 ⟨v, rfl, hS, hb2⟩
    obtain ⟨A1, c1, rfl, hle1, hC1⟩ := Kd.S_reads hS
    have hB2 : Below w.heap.size w W2 := hBW.trans (hb2.mono hBW.size)
    gi_wp2
    refine ⟨trivial, rfl, callsIn_wide.2 ((hayloftref02_SameAll.calls ks A1 c1 xs A0 c xs true W2 hC1 hle1 (Kd.C_below hr hB2) hc hsame).mono ?_)⟩
    rintro e W3 ⟨rfl, hd3⟩
    have hB3 : Below w.heap.size w W3 := hB2.trans (hd3.below.mono hB2.size)
    gi_wp2
    refine ⟨trivial, rfl, callsIn_wide.2 ((all_any g lb xs w0 W3 eg hseq (hb0.trans (hB3.mono hz)) hx hn).mono ?_)⟩
    rintro e W4 ⟨v, rfl, hS4, hb4⟩
    obtain ⟨A2, c2, rfl, hle2, hC2⟩ := Kd.S_reads hS4
    have hB4 : Below w.heap.size w W4 := hB3.trans (hb4.mono hB3.size)
    gi_wp2
    refine ⟨trivial, rfl, callsIn_wide.2 ((hayloftref02_SameAll.calls ks A2 c2 xs A0 c xs true W4 hC2 hle2 (Kd.C_below hr hB4) hc hsame).mono ?_)⟩
    rintro e W5 ⟨rfl, hd5⟩
    have hB5 : Below w.heap.size w W5 := hB4.trans (hd5.below.mono hB4.size)
    gi_wp2
    have hzW := hBW.size
    have hDlt := (Array.getElem?_eq_some_iff.1 hD).1
    have hDk : W5.heap[D]? = some (.deferred (some [])) := by
      rw [(((hb2.trans (hd3.below.mono hb2.size)).trans (hb4.mono (by have := hb2.size; have := hd3.below.size; omega))).trans (hd5.below.mono (by have := hb2.size; have := hd3.below.size; have := hb4.size; omega))).block D hDlt]; exact hD
    refine ⟨by simp, .inl ⟨_, _, rfl, run_takeDeferred hDk, ?_⟩⟩
    exact ⟨_, results_tmp rfl _ _ _, rfl, hB5.trans ((Kpt.putObj W5 D (.deferred none)).below hB5.size (fun i _ e => by omega))⟩
end Go.Proofs.Ytghblnldokpceaa.QV
