/- recover.Changes. -/
import Derived.Test.YtfepfpcilmaojaaDel
namespace Go.Proofs.Ytfepfpcilmaojaa.QV
open Go.RowKit Go.Proofs.YtfepfpcilmaojaaW.PrintWords Go.Proofs.Ytfepfpcilmaojaa.Seq Go.Proofs.Ytfepfpcilmaojaa.Mp Go.Shelf
set_option linter.unusedVariables false
set_option linter.unusedSimpArgs false
set_option maxRecDepth 100000
/-- What did not change since. -/
def oldP (since : Int) (x : Ver) : Bool := decide (x.f0.f0 ≤ since) && decide (x.f2 ≤ since)
theorem changes1_any (x : Ver) (A : Option Addr) (c : Nat) (eb : Nat) (ep : Int) (W : World) (hc : W.cell? ⟨eb, 0, none⟩ = some (.int .u64 ep)) :
    Calls Try.prog 30 #[.agg #[.int .u64 x.f0.f0, .int .u32 x.f0.f1, .slice A x.f1.length c, .int .u64 x.f2], .pointer (some ⟨eb, 0, none⟩)] W fun e w' => e = .returned (.bool (oldP ep x)) ∧ W.grownBy w' none := by
  have hlt : eb < W.heap.size := World.block_lt_of_cell? W _ hc
  unfold oldP
  cases h1 : decide (x.f0.f0 ≤ ep)
  · go_enter Try.func30, Try.ntmps30
    go_wp2
    go_ret
    exact ⟨by simp [h1], grown_of_below (by repeat (first | exact Below.refl _ _ | apply below_alloc)) none⟩
  · go_enter Try.func30, Try.ntmps30
    go_wp2
    go_ret
    exact ⟨by simp [h1], grown_of_below (by repeat (first | exact Below.refl _ _ | apply below_alloc)) none⟩

theorem indexNil_any (f : Value) (w : World) :
    Calls Try.prog 42 #[.slice none 0 0, f] w fun e w' => e = .returned (.int .i64 (-1)) ∧ w.grownBy w' none := by
  go_enter Try.func42, Try.ntmps42
  go_wp2
  go_loopw [8] (fun i wr => i = .int .i64 0 ∧ wr = w) (fun i _ => 0)
  case atStart => exact ⟨rfl, rfl⟩
  case round =>
    obtain ⟨rfl, rfl⟩ := hrel
    go_wp2
    go_ret
    exact ⟨rfl, ⟨rfl, rfl, rfl, Nat.le_refl _, fun _ _ _ => rfl⟩⟩
theorem deleteNil_any (g0 : Nat) (cb : Array Value) (w : World) :
    Calls Try.prog 29 #[.slice none 0 0, .func (.func g0) #[] cb] w fun e w' => e = .returned (.slice none 0 0) ∧ w.grownBy w' none := by
  go_enter Try.func29, Try.ntmps29
  go_wp2_with (first
    | (go_at_call 42; refine (indexNil_any _ _).mono ?_; rintro e w1 ⟨rfl, hg1⟩)
    | go_in)
  go_ret
  exact ⟨rfl, hg1⟩

theorem filter_tag {α : Type} (p : α → Bool) (l : List α) (n : Nat) : ((l.zipIdx n).filter (fun q => p q.1)).map Prod.fst = l.filter p := by
  induction l generalizing n with
  | nil => rfl
  | cons a l ih =>
    rw [List.zipIdx_cons, List.filter_cons, List.filter_cons]
    cases h : p a
    · simpa [h] using ih (n + 1)
    · simpa [h] using ih (n + 1)
theorem Mid.filtered {w W W' : World} {g cap : Nat} {L : List Ver} {m : Nat → Nat} {rs : List RawV} (h : Mid w W g cap L.length L L.length m rs) (pd : Ver → Bool) (hg : W.grownBy W' (some g))
    (ho : W'.ownsRow w.heap.size tVer 4 (.slice (some ⟨g, 0, none⟩) (rs.filter (fun r => !pd r.x)).length cap) (rs.filter (fun r => !pd r.x)).length ((rs.filter (fun r => !pd r.x)).flatMap RawV.cells)) :
    Kd.S kVer tVer W' w.heap.size (fun _ => True) (.slice (some ⟨g, 0, none⟩) (rs.filter (fun r => !pd r.x)).length cap) (L.filter (fun x => !pd x)) := by
  have hl : rs.length = L.length := by rw [← h.vers, List.length_map]
  have hf := filter_tag (fun r : RawV => !pd r.x) rs 0
  have hlen : (rs.zipIdx.filter (fun q => !pd q.1.x)).length = (rs.filter (fun r => !pd r.x)).length := by rw [← hf, List.length_map]
  have hL : L.filter (fun x => !pd x) = (rs.zipIdx.filter (fun q => !pd q.1.x)).map (·.1.x) := by
    rw [← h.vers, List.filter_map]
    have : (rs.zipIdx.filter (fun q => !pd q.1.x)).map (·.1.x) = ((rs.zipIdx.filter (fun q => !pd q.1.x)).map Prod.fst).map (·.x) := by rw [List.map_map]; rfl
    rw [this, hf]; rfl
  rw [hL, ← hlen]
  refine S_parts (w := w) (m := m) h.mono (fun j => (h.low j).2) (by rw [hf, hlen]; exact ho) ?_ ?_
  · refine List.Pairwise.filter _ ?_
    rw [List.pairwise_iff_getElem]
    intro i j hi hj hij
    simpa using hij
  · intro q hq
    have hq' := (List.mem_filter.1 hq).1
    have hqr : rs[q.2]? = some q.1 := by
      obtain ⟨r, i⟩ := q
      simpa using (List.mk_mem_zipIdx_iff_getElem?.1 hq')
    have hlt : q.2 < L.length := by rw [← hl]; exact (List.getElem?_eq_some_iff.1 hqr).1
    exact Kd.R_grown (h.new q.2 q.1 hlt hqr) hg (fun k hk => by have := (h.low q.2).2; intro e; injection e with e; omega)

theorem ownRow_form {w : World} {base c : Nat} {A : Option Addr} {e sz : Nat} (h : w.ownsRow base e sz (.slice A 0 c) 0 []) : (A = none ∧ c = 0) ∨ ∃ g, A = some ⟨g, 0, none⟩ := by
  rcases h.2 with ⟨hv, _⟩ | ⟨g', cap', cur', hv, _⟩
  · injection hv with e1 e2 e3; exact .inl ⟨e1, e3⟩
  · injection hv with e1 e2 e3; exact .inr ⟨g', e1⟩
theorem delO_any (eb : Nat) (since : Int) (wb w : World) (v : Value) (L : List Ver) (hO : OwnV wb w v L) (hmax : L.length ≤ 2932031007402) (heb : eb < wb.heap.size) (hc : w.heap[eb]? = some (.cells #[.int .u64 since] 23 (0, 0))) :
    Calls Try.prog 29 #[v, .func (.func 30) #[] #[.pointer (some ⟨eb, 0, none⟩)]] w fun e w' => ∃ v' g, e = .returned v' ∧ Kd.S kVer tVer w' wb.heap.size (fun _ => True) v' (L.filter (fun x => !oldP since x)) ∧ wb.heap.size ≤ g ∧ w.grownBy w' (some g) := by
  have heg : ∀ (args : Array Value) (w : World), (callFunc 30 args).run Try.prog w = .ok (.enter 30 args) w := fun args w => by kernel_rfl
  have hpd : ∀ g, wb.heap.size ≤ g → ∀ (rs : List RawV) W r, r ∈ rs → w.grownBy W (some g) → Calls Try.prog 30 (#[.agg #[.int .u64 r.x.f0.f0, .int .u32 r.x.f0.f1, .slice r.A r.x.f1.length r.c, .int .u64 r.x.f2]] ++ #[.pointer (some ⟨eb, 0, none⟩)]) W fun e w' => e = .returned (.bool (oldP since r.x)) ∧ W.grownBy w' none :=
    fun g hg rs W r _ hgw => changes1_any r.x r.A r.c eb since W (blk_cell (blk_grown hc hgw (by intro e; injection e with e; omega)) 0)
  rcases hO with ⟨rfl, A, c, rfl, h⟩ | ⟨_, g, cap, m, rs, rfl, h⟩
  · rcases ownRow_form h with ⟨rfl, rfl⟩ | ⟨g, rfl⟩
    · refine (deleteNil_any _ _ w).mono ?_
      rintro e w' ⟨rfl, hg⟩
      have hwb : wb.heap.size ≤ max wb.heap.size w.heap.size := Nat.le_max_left _ _
      exact ⟨_, max wb.heap.size w.heap.size, rfl, own_nil_S (own_move h (fun j hj => by cases hj)), hwb, hg.but _⟩
    · have hbg : wb.heap.size ≤ g := (own_form h).elim fun _ h => h.2.2.2.2.2
      refine (deleteV_any 30 #[.pointer (some ⟨eb, 0, none⟩)] wb.heap.size g c [] (fun r => oldP since r.x) w heg h (by simp) (hpd g hbg [])).mono ?_
      rintro e w' ⟨rfl, ho, hg⟩
      exact ⟨_, g, rfl, own_nil_S ho, hbg, hg⟩
  · have hbg : wb.heap.size ≤ g := (own_form h.own).elim fun _ h => h.2.2.2.2.2
    have hl : rs.length = L.length := by rw [← h.vers, List.length_map]
    have ho := h.own
    rw [← hl] at ho
    have hD := (deleteV_any 30 #[.pointer (some ⟨eb, 0, none⟩)] wb.heap.size g cap rs (fun r => oldP since r.x) w heg ho (by rw [hl]; exact hmax) (hpd g hbg rs))
    rw [hl] at hD
    refine hD.mono ?_
    rintro e w' ⟨rfl, ho, hg⟩
    exact ⟨_, g, rfl, h.filtered (oldP since) hg ho, hbg, hg⟩
set_option maxHeartbeats 2000000 in
theorem changes_any (A : Option Addr) (l : List Ver) (c : Nat) (since ep : Int) (w : World) (hr : kVer.C w A l.length l) (hc : l.length ≤ c) (hok : ∀ x ∈ l, Nok x.f0) (hb : l.length * 48 ≤ 140737488355328) (hrow : ∀ x ∈ l, x.f1.length * 40 ≤ 140737488355328) :
    Calls Try.prog 12 #[.slice A l.length c, .int .u64 since, .int .u64 ep] w fun e w' => ∃ v L, e = .returned v ∧ IsTold (uptoF l ep) L ∧ L.length ≤ l.length ∧ Kd.S kVer tVer w' w.heap.size (fun _ => True) v (L.filter (fun x => !oldP since x)) ∧ Below w.heap.size w w' := by
  have hB0 : Below w.heap.size w (w.alloc (.cells #[.int .u64 since] 23)) := below_alloc (Below.refl _ _) _
  have hb0 := blk_new w (.cells #[.int .u64 since] 23)
  have hs0 : (w.alloc (.cells #[.int .u64 since] 23)).heap.size = w.heap.size + 1 := by simp
  go_enter Try.func12, Try.ntmps12
  go_wp2_with (first
    | (go_at_call 11; refine (upto_any A l c ep _ (Kd.C_below hr hB0) hc hok hb hrow).mono ?_; rintro e w1 ⟨v, L, wb, rfl, hT, hLl, hBb, hO, hB1⟩; have hsb := hBb.size; have hB01 := btr' hB0 hB1)
    | (go_at_call 29; refine (delO_any w.heap.size since wb w1 v L hO (by omega) (by omega) (blk_below hb0 hB1)).mono ?_; rintro e w2 ⟨v', g, rfl, hS, hg, hgw⟩)
    | go_in)
  go_ret
  exact ⟨v', L, rfl, hT, hLl, Kd.S_lower hS (by omega), hB01.grown hgw hB01.size (fun k e => by cases e; omega)⟩
end Go.Proofs.Ytfepfpcilmaojaa.QV
