/- recover.Changes. -/
import Derived.Test.YtfepfpcilmaojaaDel
import Derived.Test.YtfepfpcilmaojaaUpto
namespace Go.Proofs.Ytfepfpcilmaojaa.QV
open Go.RowKit Go.Proofs.YtfepfpcilmaojaaW.PrintWords Go.Proofs.Ytfepfpcilmaojaa.Seq Go.Proofs.Ytfepfpcilmaojaa.Mp Go.Shelf
set_option linter.unusedVariables false
set_option linter.unusedSimpArgs false
set_option maxRecDepth 100000
/-- What did not change since. -/
def oldP (since : Int) (x : Ver) : Bool := decide (x.f0.f0 ≤ since) && decide (x.f2 ≤ since)
theorem changes1_any (x : Ver) (A : Option Addr) (c : Nat) (eb : Nat) (ep : Int) (W : World) (hc : W.cell? ⟨eb, 0, none⟩ = some (.int .u64 ep)) :
    Calls Try.prog 30 #[.agg #[.int .u64 x.f0.f0, .int .u32 x.f0.f1, .slice A x.f1.length c, .int .u64 x.f2], .pointer (some ⟨eb, 0, none⟩)] W fun e w' => e = .returned (.bool (oldP ep x)) ∧ W.grownBy w' none := by
  have hlt : eb < W.heap.size := World.block_lt_of_cell? W _ hc
  unfold oldP
  cases h1 : decide (x.f0.f0 ≤ ep)
  · go_enter Try.func30, Try.ntmps30
    go_wp2
    go_ret
    exact ⟨by simp [h1], grown_of_below (by repeat (first | exact Below.refl _ _ | apply below_alloc)) none⟩
  · go_enter Try.func30, Try.ntmps30
    go_wp2
    go_ret
    exact ⟨by simp [h1], grown_of_below (by repeat (first | exact Below.refl _ _ | apply below_alloc)) none⟩

theorem indexNil_any (f : Value) (w : World) :
    Calls Try.prog 42 #[.slice none 0 0, f] w fun e w' => e = .returned (.int .i64 (-1)) ∧ w.grownBy w' none := by
  go_enter Try.func42, Try.ntmps42
  go_wp2
  go_loopw [8] (fun i wr => i = .int .i64 0 ∧ wr = w) (fun i _ => 0)
  case atStart => exact ⟨rfl, rfl⟩
  case round =>
    obtain ⟨rfl, rfl⟩ := hrel
    go_wp2
    go_ret
    exact ⟨rfl, ⟨rfl, rfl, rfl, Nat.le_refl _, fun _ _ _ => rfl⟩⟩
theorem deleteNil_any (g0 : Nat) (cb : Array Value) (w : World) :
    Calls Try.prog 29 #[.slice none 0 0, .func (.func g0) #[] cb] w fun e w' => e = .returned (.slice none 0 0) ∧ w.grownBy w' none := by
  go_enter Try.func29, Try.ntmps29
  go_wp2_with (first
    | (go_at_call 42; refine (indexNil_any _ _).mono ?_; rintro e w1 ⟨rfl, hg1⟩)
    | go_in)
  go_ret
  exact ⟨rfl, hg1⟩

theorem filter_tag {α : Type} (p : α → Bool) (l : List α) (n : Nat) : ((l.zipIdx n).filter (fun q => p q.1)).map Prod.fst = l.filter p := by
  induction l generalizing n with
  | nil => rfl
  | cons a l ih =>
    rw [List.zipIdx_cons, List.filter_cons, List.filter_cons]
    cases h : p a
    · simpa [h] using ih (n + 1)
    · simpa [h] using ih (n + 1)
theorem Mid.filtered {w W W' : World} {g cap : Nat} {L : List Ver} {m : Nat → Nat} {rs : List RawV} (h : Mid w W g cap L.length L L.length m rs) (pd : Ver → Bool) (hg : W.grownBy W' (some g))
    (ho : W'.ownsRow w.heap.size tVer 4 (.slice (some ⟨g, 0, none⟩) (rs.filter (fun r => !pd r.x)).length cap) (rs.filter (fun r => !pd r.x)).length ((rs.filter (fun r => !pd r.x)).flatMap RawV.cells)) :
    Kd.S kVer tVer W' w.heap.size (fun _ => True) (.slice (some ⟨g, 0, none⟩) (rs.filter (fun r => !pd r.x)).length cap) (L.filter (fun x => !pd x)) := by
  have hl : rs.length = L.length := by rw [← h.vers, List.length_map]
  have hf := filter_tag (fun r : RawV => !pd r.x) rs 0
  have hlen : (rs.zipIdx.filter (fun q => !pd q.1.x)).length = (rs.filter (fun r => !pd r.x)).length := by rw [← hf, List.length_map]
  have hL : L.filter (fun x => !pd x) = (rs.zipIdx.filter (fun q => !pd q.1.x)).map (·.1.x) := by
    rw [← h.vers, List.filter_map]
    have : (rs.zipIdx.filter (fun q => !pd q.1.x)).map (·.1.x) = ((rs.zipIdx.filter (fun q => !pd q.1.x)).map Prod.fst).map (·.x) := by rw [List.map_map]; rfl
    rw [this, hf]; rfl
  rw [hL, ← hlen]
  refine S_parts (w := w) (m := m) h.mono (fun j => (h.low j).2) (by rw [hf, hlen]; exact ho) ?_ ?_
  · refine List.Pairwise.filter _ ?_
    rw [List.pairwise_iff_getElem]
    intro i j hi hj hij
    simpa using hij
  · intro q hq
    have hq' := (List.mem_filter.1 hq).1
    have hqr : rs[q.2]? = some q.1 := by
      obtain ⟨r, i⟩ := q
      simpa using (List.mk_mem_zipIdx_iff_getElem?.1 hq')
    have hlt : q.2 < L.length := by rw [← hl]; exact (List.getElem?_eq_some_iff.1 hqr).1
    exact Kd.R_grown (h.new q.2 q.1 hlt hqr) hg (fun k hk => by have := (h.low q.2).2; intro e; injection e with e; omega)

theorem ownRow_form {w : World} {base c : Nat} {A : Option Addr} {e sz : Nat} (h : w.ownsRow base e sz (.slice A 0 c) 0 []) : (A = none ∧ c = 0) ∨ ∃ g, A = some ⟨g, 0, none⟩ := by
  rcases h.2 with ⟨hv, _⟩ | ⟨g', cap', cur', hv, _⟩
  · injection hv with e1 e2 e3; exact .inl ⟨e1, e3⟩
  · injection hv with e1 e2 e3; exact .inr ⟨g', e1⟩
theorem delO_any (eb : Nat) (since : Int) (wb w : World) (v : Value) (L : List Ver) (hO : OwnV wb w v L) (hmax : L.length ≤ 2932031007402) (heb : eb < wb.heap.size) (hc : w.heap[eb]? = some (.cells #[.int .u64 since] 23 (0, 0))) :
    Calls Try.prog 29 #[v, .func (.func 30) #[] #[.pointer (some ⟨eb, 0, none⟩)]] w fun e w' => ∃ v' g, e = .returned v' ∧ Kd.S kVer tVer w' wb.heap.size (fun _ => True) v' (L.filter (fun x => !oldP since x)) ∧ wb.heap.size ≤ g ∧ w.grownBy w' (some g) := by
  have heg : ∀ (args : Array Value) (w : World), (callFunc 30 args).run Try.prog w = .ok (.enter 30 args) w := fun args w => by kernel_rfl
  have hpd : ∀ g, wb.heap.size ≤ g → ∀ (rs : List RawV) W r, r ∈ rs → w.grownBy W (some g) → Calls Try.prog 30 (#[.agg #[.int .u64 r.x.f0.f0, .int .u32 r.x.f0.f1, .slice r.A r.x.f1.length r.c, .int .u64 r.x.f2]] ++ #[.pointer (some ⟨eb, 0, none⟩)]) W fun e w' => e = .returned (.bool (oldP since r.x)) ∧ W.grownBy w' none :=
    fun g hg rs W r _ hgw => changes1_any r.x r.A r.c eb since W (blk_cell (blk_grown hc hgw (by intro e; injection e with e; omega)) 0)
  rcases hO with ⟨rfl, A, c, rfl, h⟩ | ⟨_, g, cap, m, rs, rfl, h⟩
  · rcases ownRow_form h with ⟨rfl, rfl⟩ | ⟨g, rfl⟩
    · refine (deleteNil_any _ _ w).mono ?_
      rintro e w' ⟨rfl, hg⟩
      have hwb : wb.heap.size ≤ max wb.heap.size w.heap.size := Nat.le_max_left _ _
      exact ⟨_, max wb.heap.size w.heap.size, rfl, own_nil_S (own_move h (fun j hj => by cases hj)), hwb, hg.but _⟩
    · have hbg : wb.heap.size ≤ g := (own_form h).elim fun _ h => h.2.2.2.2.2
      refine (deleteV_any 30 #[.pointer (some ⟨eb, 0, none⟩)] wb.heap.size g c [] (fun r => oldP since r.x) w heg h (by simp) (hpd g hbg [])).mono ?_
      rintro e w' ⟨rfl, ho, hg⟩
      exact ⟨_, g, rfl, own_nil_S ho, hbg, hg⟩
  · have hbg : wb.heap.size ≤ g := (own_form h.own).elim fun _ h => h.2.2.2.2.2
    have hl : rs.length = L.length := by rw [← h.vers, List.length_map]
    have ho := h.own
    rw [← hl] at ho
    have hD := (deleteV_any 30 #[.pointer (some ⟨eb, 0, none⟩)] wb.heap.size g cap rs (fun r => oldP since r.x) w heg ho (by rw [hl]; exact hmax) (hpd g hbg rs))
    rw [hl] at hD
    refine hD.mono ?_
    rintro e w' ⟨rfl, ho, hg⟩
    exact ⟨_, g, rfl, h.filtered (oldP since) hg ho, hbg, hg⟩
set_option maxHeartbeats 2000000 in
theorem changes_any (A : Option Addr) (l : List Ver) (c : Nat) (since ep : Int) (w : World) (hr : kVer.C w A l.length l) (hc : l.length ≤ c) (hok : ∀ x ∈ l, Nok x.f0) (hb : l.length * 48 ≤ 140737488355328) (hrow : ∀ x ∈ l, x.f1.length * 40 ≤ 140737488355328) :
    Calls Try.prog 12 #[.slice A l.length c, .int .u64 since, .int .u64 ep] w fun e w' => ∃ v L, e = .returned v ∧ IsTold (uptoF l ep) L ∧ L.length ≤ l.length ∧ Kd.S kVer tVer w' w.heap.size (fun _ => True) v (L.filter (fun x => !oldP since x)) ∧ Below w.heap.size w w' := by
  have hB0 : Below w.heap.size w (w.alloc (.cells #[.int .u64 since] 23)) := below_alloc (Below.refl _ _) _
  have hb0 := blk_new w (.cells #[.int .u64 since] 23)
  have hs0 : (w.alloc (.cells #[.int .u64 since] 23)).heap.size = w.heap.size + 1 := by simp
  go_enter Try.func12, Try.ntmps12
  go_wp2_with (first
    | (go_at_call 11; refine (upto_any A l c ep _ (Kd.C_below hr hB0) hc hok hb hrow).mono ?_; rintro e w1 ⟨v, L, wb, rfl, hT, hLl, hBb, hO, hB1⟩; have hsb := hBb.size; have hB01 := btr' hB0 hB1)
    | (go_at_call 29; refine (delO_any w.heap.size since wb w1 v L hO (by omega) (by omega) (blk_below hb0 hB1)).mono ?_; rintro e w2 ⟨v', g, rfl, hS, hg, hgw⟩)
    | go_in)
  go_ret
  exact ⟨v', L, rfl, hT, hLl, Kd.S_lower hS (by omega), hB01.grown hgw hB01.size (fun k e => by cases e; omega)⟩
end Go.Proofs.Ytfepfpcilmaojaa.QV
/- recover.Merged. -/
namespace Go.Proofs.Ytfepfpcilmaojaa.QV
open Go.RowKit Go.Proofs.YtfepfpcilmaojaaW.PrintWords Go.Proofs.Ytfepfpcilmaojaa.Seq Go.Proofs.Ytfepfpcilmaojaa.Mp Go.Shelf
set_option linter.unusedVariables false
set_option linter.unusedSimpArgs false
set_option maxRecDepth 100000
theorem orU_f (a b : Int) : QO.cmp_Or_uint64.f 3 [a, b] = some (if a = 0 then b else a) := by
  simp [QO.cmp_Or_uint64.f, QO.cmp_Or_uint64.l0, rd, wrap64]
  (repeat split) <;> first | rfl | omega | simp_all
theorem lit2_C (W : World) (g : Nat) (hg : g = W.heap.size) (a b : Int) : Kd.C (Kd.int .u64) (W.alloc (.cells #[.int .u64 a, .int .u64 b] 23)) (some ⟨g, 0, none⟩) 2 [a, b] := by
  subst hg
  have h := own_lit W 0 23 .u64 [a, b] (Nat.zero_le _) (by simp)
  obtain ⟨A, c, e, hr⟩ := own_reads h
  simp at e
  obtain ⟨rfl, rfl⟩ := e
  exact Kd.C_of_reads hr
/-- Two versions of one name. -/
def mergeV (x y : Ver) : Ver := ⟨x.f0, x.f1, if x.f2 = 0 then y.f2 else x.f2⟩
def mergedF (have_ more : List Ver) (k : Nm) : Option Ver :=
  match firstOf have_ k, firstOf more k with
  | some x, some y => some (mergeV x y)
  | some x, none => some x
  | none, o => o
theorem mergedF_f0 (l m : List Ver) (k : Nm) (x : Ver) (h : mergedF l m k = some x) : x.f0 = k := by
  unfold mergedF at h
  split at h
  · rename_i x' y' h1 h2; cases h; exact firstOf_f0 l k x' h1
  · rename_i x' h1 h2; cases h; exact firstOf_f0 l k _ h1
  · exact firstOf_f0 m k x h
theorem mergedF_f1 (l m : List Ver) (k : Nm) (x : Ver) (h : mergedF l m k = some x) : ∃ y, (y ∈ l ∨ y ∈ m) ∧ x.f1 = y.f1 := by
  unfold mergedF at h
  split at h
  · rename_i x' y' h1 h2; cases h; exact ⟨x', .inl (firstOf_mem l k x' h1), rfl⟩
  · rename_i x' h1 h2; cases h; exact ⟨_, .inl (firstOf_mem l k _ h1), rfl⟩
  · exact ⟨x, .inr (firstOf_mem m k x h), rfl⟩

set_option maxHeartbeats 4000000 in
theorem merged_any (A0 : Option Addr) (c0 : Nat) (l : List Ver) (A1 : Option Addr) (c1 : Nat) (m : List Ver) (w : World) (hr0 : kVer.C w A0 l.length l) (hc0 : l.length ≤ c0) (hr1 : kVer.C w A1 m.length m) (hc1 : m.length ≤ c1)
    (hok0 : ∀ x ∈ l, Nok x.f0) (hok1 : ∀ x ∈ m, Nok x.f0) (hb0 : l.length * 48 ≤ 140737488355328) (hb1 : m.length * 48 ≤ 140737488355328) (Lc : List Nm) (hLc : ∀ k, mergedF l m k ≠ none → k ∈ Lc) (hbc : Lc.length * 48 ≤ 140737488355328)
    (hrow0 : ∀ x ∈ l, x.f1.length * 40 ≤ 140737488355328) (hrow1 : ∀ x ∈ m, x.f1.length * 40 ≤ 140737488355328) :
    Calls Try.prog 17 #[.slice A0 l.length c0, .slice A1 m.length c1] w fun e w' => ∃ v L, e = .returned v ∧ IsTold (mergedF l m) L ∧ L.length ≤ Lc.length ∧ Kd.S kVer tVer w' w.heap.size (fun _ => True) v L ∧ Below w.heap.size w w' := by
  go_enter Try.func17, Try.ntmps17
  go_wp2_with (first
    | (go_at_call 25; have tk1 := hr0; refine (once_any A0 l c0 w _ (Below.refl _ _) hr0 hc0 hok0 (by omega)).mono ?_; rintro e w1 ⟨rfl, ⟨f1, hM1, hF1⟩, hB1⟩; clear hr0)
    | (go_at_call 25; refine (once_any A1 m c1 w _ hB1 hr1 hc1 hok1 (by omega)).mono ?_; rintro e w2 ⟨rfl, ⟨f2, hM2, hF2⟩, hB2⟩; clear hr1)
    | (at_range; refine wpList_range_map _ rfl _ tMap rfl tVer Try.underlying52 rfl hM2 ?_; intro w3 cnt3 hrg3 hc3 hg3 hs3)
    | go_in)
  go_frame
  have hB03 : Below w.heap.size w w3 := (btr' hB1 hB2).grown hg3 (btr' hB1 hB2).size (fun k e => by cases e)
  have hbw1 := hM1.lt
  have hbw2 := hM2.lt
  have hM13 : MapIs nmK w3 w.heap.size l.length f1 := (hM1.below hB2).at (hg3.block _ (Nat.lt_of_lt_of_le hbw1 hB2.size) (by simp))
  have hN : ∀ (f : Nm → Option Value) (todo : Nm → Bool), FIs w f (fun k => if todo k = true then firstOf l k else mergedF l m k) → ∀ a, Nok a → f a ≠ none → a ∈ Lc := fun f todo hF a ha hne => by
    refine hLc a ?_
    rcases hF a ha with ⟨_, h2⟩ | ⟨u, x, h1, h2, _⟩
    · exact absurd h2 hne
    · by_cases e : todo a = true
      · simp only [e, if_true] at h2
        unfold mergedF
        rw [h2]
        cases firstOf m a <;> simp
      · simp only [e] at h2
        intro h; simp [h] at h2
  go_loopw [16] (fun _ wr => ∃ (todo : Nm → Bool) (cnt : Nat) (f : Nm → Option Value), RangeIs nmK wr w1.heap.size w2.heap.size m.length f2 todo cnt ∧ MapIs nmK wr w.heap.size Lc.length f ∧ FIs w f (fun k => if todo k = true then firstOf l k else mergedF l m k) ∧ Below w.heap.size w wr)
    (fun _ wr => wr.rangeLeft w1.heap.size w2.heap.size)
  case atStart =>
    have hF : FIs w f1 (fun k => if (f2 k).isSome = true then firstOf l k else mergedF l m k) := hF1.congr (fun k hk => by
      rw [hF2.some_ hk]
      cases h : firstOf m k with
      | none => simp [mergedF, h]; cases firstOf l k <;> rfl
      | some y => simp)
    exact ⟨_, cnt3, f1, hrg3, hM13.bound Lc (hN _ _ hF), hF, hB03⟩
  case round =>
    obtain ⟨todo, cnt, f, hrg, hMf, hF, hBr⟩ := hrel
    go_wp2_with (first
      | (at_next; refine wpList_next_map _ rfl _ rfl rfl hrg ?_ ?_)
      | go_in)
    · intro _ hl0
      have hFe : FIs w f (mergedF l m) := hF.congr (fun k hk => by simp [hl0 k hk])
      go_wp2_with (first
        | (go_at_call 28; refine (told_any w.heap.size Lc.length (mergedF l m) _ _ hMf (hFe.below hBr) (mergedF_f0 l m) hbc ?_).mono ?_)
        | go_in)
      · intro k x hk
        obtain ⟨y, hy, e⟩ := mergedF_f1 l m k x hk
        rw [e]; exact hy.elim (hrow0 y) (hrow1 y)
      · rintro e w6 ⟨v, L, rfl, hT, hLl, hS, hB6⟩
        go_wp2
        go_ret
        exact ⟨v, L, rfl, hT, hLl, Kd.S_lower hS.S hBr.size, btr' hBr hB6⟩
    · intro a v w4 cnt4 hak htd hfv hrg4 hlt hg4 hs4 hen
      rw [nmK_val] at hen
      obtain ⟨y, hFy, Ay, cy, rfl, hly, hCy⟩ := hF2.get hak hfv
      have hy0 := firstOf_f0 m a y hFy
      have hB4 : Below w.heap.size w w4 := hBr.grown hg4 hBr.size (fun k e => by cases e; exact Nat.le_trans hB1.size hB2.size)
      have hsz1 := hB1.size
      have hsz2 := hB2.size
      have hM4 : MapIs nmK w4 w.heap.size Lc.length f := hMf.at (hg4.block _ hMf.lt (by intro e; injection e with e; omega))
      have hmw := hrg4.map.lt
      have hk4 := hrg4.lt
      have htd' : (firstOf m a) = some y := hFy
      rcases hF a hak with ⟨h1, h2⟩ | ⟨u, x, h1, h2, Ax, cx, rfl, hlx, hCx⟩
      · have h1' : firstOf l a = none := by simpa [htd] using h1
        go_wp2_with (first
          | (at_lookup; refine wpList_look_map _ rfl _ _ tMap rfl tVer Try.underlying52 rfl (hM4.below (by repeat (first | exact Below.refl _ _ | apply below_alloc))) (zeroVer _) a hak rfl ?_; simp only [h2, Option.getD_none, Option.isSome_none])
          | (at_mapUpdate; refine wpList_put_map _ rfl _ _ _ tMap rfl tVer Try.underlying52 rfl (hM4.below (by repeat (first | exact Below.refl _ _ | apply below_alloc))) (by unfold maxLen; omega) a hak rfl (.agg #[.int .u64 a.f0, .int .u32 a.f1, .slice Ay y.f1.length cy, .int .u64 y.f2]) rfl ?_; intro w5 hM5 hturn5; have hg45 : w4.grownBy w5 (some w.heap.size) := World.grownBy.andThen (grown_of_below (by repeat (first | exact Below.refl _ _ | apply below_alloc)) (some w.heap.size)) hturn5.grown (fun j hj => by cases hj; exact Or.inr rfl); go_frame)
          | go_in)
        have hrg5 := hrg4.at (hg45.block _ hmw (by intro e; injection e with e; omega)) (hg45.block _ hk4 (by intro e; injection e with e; omega))
        have hF5 : FIs w (upd f a (some (.agg #[.int .u64 a.f0, .int .u32 a.f1, .slice Ay y.f1.length cy, .int .u64 y.f2]))) (fun k => if (todo k && !decide (k = a)) = true then firstOf l k else mergedF l m k) :=
          (hF.upd_ a (x := y) ⟨Ay, cy, by rw [hy0], hly, hCy⟩).congr (fun z hz => by
            unfold updV
            by_cases e : z = a
            · subst e; simp [mergedF, h1', htd']
            · simp [e])
        go_roundw
        case rel => exact ⟨_, cnt4, _, hrg5, hM5.bound Lc (hN _ _ hF5), hF5, hB4.grown hg45 hB4.size (fun k e => by cases e; exact Nat.le_refl _)⟩
        case measure => rw [hrg5.left_eq, hrg.left_eq]; exact hlt
      · have h2' : firstOf l a = some x := by simpa [htd] using h2
        have hx0 := firstOf_f0 l a x h2'
        obtain ⟨z, hz⟩ : ∃ z, (if x.f2 = 0 then y.f2 else x.f2) = z := ⟨_, rfl⟩
        go_wp2_with (first
          | (at_lookup; refine wpList_look_map _ rfl _ _ tMap rfl tVer Try.underlying52 rfl (hM4.below (by repeat (first | exact Below.refl _ _ | apply below_alloc))) (zeroVer _) a hak rfl ?_; simp only [h1, Option.getD_some, Option.isSome_some])
          | (go_at_call 33; refine (QO.cmp_Or_uint64.calls 3 _ 2 [x.f2, y.f2] z _ (lit2_C _ _ (by simp [hs4]) x.f2 y.f2) (by simp) (by rw [orU_f, hz])).mono ?_; rintro e _ ⟨rfl, ⟨⟨nn, rfl⟩⟩⟩)
          | (at_mapUpdate; refine wpList_put_map _ rfl _ _ _ tMap rfl tVer Try.underlying52 rfl (hM4.below (Below.setCell (pw_below_drewN (by repeat (first | exact Below.refl _ _ | apply below_alloc)) _) (by rw [hs4]; exact Nat.le_succ _) _)) (by unfold maxLen; omega) a hak rfl (.agg #[.int .u64 a.f0, .int .u32 a.f1, .slice Ax x.f1.length cx, .int .u64 z]) rfl ?_; intro w5 hM5 hturn5; have hg45 : w4.grownBy w5 (some w.heap.size) := World.grownBy.andThen (grown_of_below (Below.setCell (pw_below_drewN (by repeat (first | exact Below.refl _ _ | apply below_alloc)) _) (by rw [hs4]; exact Nat.le_succ _) _) (some w.heap.size)) hturn5.grown (fun j hj => by cases hj; exact Or.inr rfl); go_frame)
          | go_in)
        have hrg5 := hrg4.at (hg45.block _ hmw (by intro e; injection e with e; omega)) (hg45.block _ hk4 (by intro e; injection e with e; omega))
        have hF5 : FIs w (upd f a (some (.agg #[.int .u64 a.f0, .int .u32 a.f1, .slice Ax x.f1.length cx, .int .u64 z]))) (fun k => if (todo k && !decide (k = a)) = true then firstOf l k else mergedF l m k) :=
          (hF.upd_ a (x := mergeV x y) ⟨Ax, cx, by simp only [mergeV, hx0, hz], hlx, hCx⟩).congr (fun z hz => by
            unfold updV
            by_cases e : z = a
            · subst e; simp [mergedF, h2', htd']
            · simp [e])
        go_roundw
        case rel => exact ⟨_, cnt4, _, hrg5, hM5.bound Lc (hN _ _ hF5), hF5, hB4.grown hg45 hB4.size (fun k e => by cases e; exact Nat.le_refl _)⟩
        case measure => rw [hrg5.left_eq, hrg.left_eq]; exact hlt
end Go.Proofs.Ytfepfpcilmaojaa.QV
