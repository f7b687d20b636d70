/- maps.DeleteFunc of a map of versions; recover.Upto. -/
import Derived.Test.YtfepfpcilmaojaaTold8
namespace Go.Proofs.Ytfepfpcilmaojaa.QV
open Go.RowKit Go.Proofs.YtfepfpcilmaojaaW.PrintWords Go.Proofs.Ytfepfpcilmaojaa.Seq Go.Proofs.Ytfepfpcilmaojaa.Mp Go.Shelf
set_option linter.unusedVariables false
set_option linter.unusedSimpArgs false
set_option maxRecDepth 100000
/-- What stays: all that is still to come, and of the others what the function says no to. -/
def keepF (pd : Nm → Value → Bool) (f : Nm → Option Value) (todo : Nm → Bool) (a : Nm) : Option Value := if todo a = true then f a else (f a).filter (fun v => !pd a v)

set_option maxHeartbeats 4000000 in
theorem deleteFunc_any (b n : Nat) (f : Nm → Option Value) (F : Nm → Option Ver) (pd : Nm → Value → Bool) (g : Nat) (cb : Array Value) (w : World) (eg : ∀ args w, (callFunc g args).run Try.prog w = .ok (.enter g args) w) (hm : MapIs nmK w b n f) (hF : FIs w f F)
    (hdel : ∀ (W : World) (a : Nm) (x : Ver) (A : Option Addr) (c : Nat), w.grownBy W (some b) → Nok a → F a = some x → f a = some (.agg #[.int .u64 x.f0.f0, .int .u32 x.f0.f1, .slice A x.f1.length c, .int .u64 x.f2]) →
      Calls Try.prog g (#[.agg #[.int .u64 a.f0, .int .u32 a.f1], .agg #[.int .u64 x.f0.f0, .int .u32 x.f0.f1, .slice A x.f1.length c, .int .u64 x.f2]] ++ cb) W fun e w' => e = .returned (.bool (pd a (.agg #[.int .u64 x.f0.f0, .int .u32 x.f0.f1, .slice A x.f1.length c, .int .u64 x.f2]))) ∧ W.grownBy w' none) :
    Calls Try.prog 26 #[.map (some b), .func (.func g) #[] cb] w fun e w' => e = .returned (.tuple #[]) ∧ MapIs nmK w' b n (fun a => (f a).filter (fun v => !pd a v)) ∧ w.grownBy w' (some b) := by
  have HD := Lib.hid hdel
  clear hdel
  go_enter Try.func26, Try.ntmps26
  go_wp2_with (first
    | (at_range; refine wpList_range_map _ rfl _ tMap rfl tVer Try.underlying52 rfl hm ?_; intro w0 cnt0 hrg0 hc0 hg0 hs0)
    | go_in)
  go_frame
  go_loopw [8] (fun _ wr => ∃ (todo : Nm → Bool) (cnt : Nat), RangeIs nmK wr b w.heap.size n (keepF pd f todo) todo cnt ∧ w.grownBy wr (some b))
    (fun _ wr => wr.rangeLeft b w.heap.size)
  case atStart =>
    refine ⟨_, cnt0, hrg0.congr (fun a ha => ?_), hg0.but _⟩
    unfold keepF
    cases hf : f a <;> simp [hf]
  case round =>
    obtain ⟨todo, cnt, hrg, hgw⟩ := hrel
    go_wp2_with (first
      | (at_next; refine wpList_next_map _ rfl _ rfl rfl hrg ?_ ?_)
      | go_in)
    · intro _ hl0
      go_wp2
      go_end0
      refine ⟨rfl, (hrg.map).congr (fun a ha => ?_), hgw⟩
      simp [keepF, hl0 a ha]
    · intro a v w1 cnt1 hak htd hfv hrg1 hlt hg1 hs1 hen
      rw [nmK_val] at hen
      have hfa : f a = some v := by simpa [keepF, htd] using hfv
      obtain ⟨x, hFx, A, c, rfl, hlx, hCx⟩ := hF.get hak hfa
      have hgw1 := hgw.andThen hg1 (fun j hj => by cases hj; exact Or.inl (Nat.le_refl _))
      have hbl := hrg1.map.lt
      have hrl := hrg1.lt
      cases hp : pd a (.agg #[.int .u64 x.f0.f0, .int .u32 x.f0.f1, .slice A x.f1.length c, .int .u64 x.f2])
      · go_wp2_with (first
          | (go_at_fn g; refine (HD.out _ a x A c (hgw1.andThen (grown_of_below (by repeat (first | exact Below.refl _ _ | apply below_alloc)) none) (fun j hj => by cases hj)) hak hFx hfa).mono ?_; rintro e w2 ⟨he, hg2⟩; rw [hp] at he; subst he; have hg12 : w1.grownBy w2 none := World.grownBy.andThen (grown_of_below (by repeat (first | exact Below.refl _ _ | apply below_alloc)) none) hg2 (fun j hj => by cases hj))
          | go_in)
        have hrg2 := hrg1.kept hg12 (by simp) (by simp)
        go_roundw
        case rel =>
          refine ⟨_, cnt1, hrg2.congr (fun z hz => ?_), hgw1.andThen hg12 (fun j hj => by cases hj)⟩
          unfold keepF
          by_cases e : z = a
          · subst e; simp [htd, hfa, hp, Option.filter]
          · simp [e]
        case measure => rw [hrg2.left_eq, hrg.left_eq]; exact hlt
      · go_wp2_with (first
          | (go_at_fn g; refine (HD.out _ a x A c (hgw1.andThen (grown_of_below (by repeat (first | exact Below.refl _ _ | apply below_alloc)) none) (fun j hj => by cases hj)) hak hFx hfa).mono ?_; rintro e w2 ⟨he, hg2⟩; rw [hp] at he; subst he; have hg12 : w1.grownBy w2 none := World.grownBy.andThen (grown_of_below (by repeat (first | exact Below.refl _ _ | apply below_alloc)) none) hg2 (fun j hj => by cases hj); have hrg2 := hrg1.kept hg12 (by simp) (by simp); have hkb := blk_grown (blk_alloc (blk_new w1 (.cells #[.int .u64 a.f0, .int .u32 a.f1] tNm)) _) hg2 (by simp); rw [hs1] at hkb; have hk0 := blk_cell hkb 0; have hk1 := blk_cell hkb 1)
          | (at_delete; refine wpList_drop_range _ rfl _ _ tMap rfl tVer Try.underlying52 rfl hrg2 a hak rfl ?_; intro w3 cnt3 hrg3 hle hturn; go_frame)
          | go_in)
        go_roundw
        case rel =>
          refine ⟨_, cnt3, (hrg3.congr (fun z hz => ?_)), (hgw1.andThen hg12 (fun j hj => by cases hj)).andThen hturn.grown (fun j hj => by cases hj; exact Or.inr rfl)⟩
          unfold upd keepF
          by_cases e : z = a
          · subst e; simp [htd, hfa, hp, Option.filter]
          · simp [e]
        case measure => rw [hrg3.left_eq, hrg.left_eq]; omega

theorem once_any (A : Option Addr) (l : List Ver) (c : Nat) (w0 w : World) (hb0 : Below w0.heap.size w0 w) (hr : kVer.C w0 A l.length l) (hc : l.length ≤ c) (hok : ∀ x ∈ l, Nok x.f0) (hb : l.length < 9223372036854775807) :
    Calls Try.prog 25 #[.slice A l.length c] w fun e w' => e = .returned (.map (some w.heap.size)) ∧ (∃ f, MapIs nmK w' w.heap.size l.length f ∧ FIs w0 f (firstOf l)) ∧ Below w.heap.size w w' := by
  go_enter Try.func25, Try.ntmps25
  go_wp2_with (first
    | (go_at_call 37; refine (keyed_any A l c w0 _ hb0 hr hc hok hb).mono ?_; rintro e w1 ⟨rfl, hM, hB⟩)
    | go_in)
  go_ret
  exact ⟨rfl, hM, hB⟩
/-- A version as it was told at an epoch. -/
def asOf (ep : Int) (x : Ver) : Ver := if ep < x.f2 then ⟨x.f0, x.f1, 0⟩ else x
theorem asOf_f0 (ep : Int) (x : Ver) : (asOf ep x).f0 = x.f0 := by unfold asOf; split <;> rfl
theorem asOf_f1 (ep : Int) (x : Ver) : (asOf ep x).f1 = x.f1 := by unfold asOf; split <;> rfl
/-- What there was up to an epoch. -/
def uptoF (l : List Ver) (ep : Int) (k : Nm) : Option Ver := if ep < k.f0 then none else (firstOf l k).map (asOf ep)
theorem firstOf_f0 (l : List Ver) (k : Nm) (x : Ver) (h : firstOf l k = some x) : x.f0 = k := by
  have := List.find?_some h
  simpa using this
theorem firstOf_mem (l : List Ver) (k : Nm) (x : Ver) (h : firstOf l k = some x) : x ∈ l := List.mem_of_find?_eq_some h
theorem upto1_any (a : Nm) (u : Value) (x : Ver) (hu : ∃ A c, u = .agg #[.int .u64 x.f0.f0, .int .u32 x.f0.f1, .slice A x.f1.length c, .int .u64 x.f2]) (eb : Nat) (ep : Int) (W : World) (hc : W.cell? ⟨eb, 0, none⟩ = some (.int .u64 ep)) :
    Calls Try.prog 27 #[.agg #[.int .u64 a.f0, .int .u32 a.f1], u, .pointer (some ⟨eb, 0, none⟩)] W fun e w' => e = .returned (.bool (decide (ep < a.f0))) ∧ W.grownBy w' none := by
  obtain ⟨A, c, rfl⟩ := hu
  have hlt : eb < W.heap.size := World.block_lt_of_cell? W _ hc
  go_enter Try.func27, Try.ntmps27
  go_wp2
  go_ret
  exact ⟨by simp, grown_of_below (by repeat (first | exact Below.refl _ _ | apply below_alloc)) none⟩

set_option maxHeartbeats 4000000 in
theorem upto_any (A : Option Addr) (l : List Ver) (c : Nat) (ep : Int) (w : World) (hr : kVer.C w A l.length l) (hc : l.length ≤ c) (hok : ∀ x ∈ l, Nok x.f0) (hb : l.length * 48 ≤ 140737488355328) (hrow : ∀ x ∈ l, x.f1.length * 40 ≤ 140737488355328) :
    Calls Try.prog 11 #[.slice A l.length c, .int .u64 ep] w fun e w' => ∃ v L wb, e = .returned v ∧ IsTold (uptoF l ep) L ∧ L.length ≤ l.length ∧ Below w.heap.size w wb ∧ OwnV wb w' v L ∧ Below w.heap.size w w' := by
  go_enter Try.func11, Try.ntmps11
  go_wp2_with (first
    | (go_at_call 25; refine (once_any A l c _ _ (Below.refl _ _) (Kd.C_below hr (by repeat (first | exact Below.refl _ _ | apply below_alloc))) hc hok (by omega)).mono ?_; rintro e w1 ⟨rfl, ⟨f1, hM1, hF1⟩, hB1⟩; rw [World.size_alloc] at hM1; have hep1 := blk_below (blk_new w (.cells #[.int .u64 ep] 23)) hB1; have hB01 := btr' (below_alloc (Below.refl w.heap.size w) (.cells #[.int .u64 ep] 23)) hB1)
    | (at_range; refine wpList_range_map _ rfl _ tMap rfl tVer Try.underlying52 rfl hM1 ?_; intro w2 cnt2 hrg2 hc2 hg2 hs2)
    | go_in)
  go_frame
  obtain ⟨W0, hW0⟩ : ∃ W0, w.alloc (.cells #[.int .u64 ep] 23) = W0 := ⟨_, rfl⟩
  have hs0 : W0.heap.size = w.heap.size + 1 := by rw [← hW0]; simp
  have hBw : Below w.heap.size w W0 := by rw [← hW0]; exact below_alloc (Below.refl _ _) _
  rw [hW0] at hF1 hB1
  have hB2 : Below W0.heap.size W0 w2 := hB1.grown hg2 hB1.size (fun k e => by cases e)
  have hep2 : w2.heap[w.heap.size]? = some (.cells #[.int .u64 ep] 23 (0, 0)) := blk_grown hep1 hg2 (by simp)
  go_loopw [12] (fun _ wr => ∃ (todo : Nm → Bool) (cnt : Nat) (f : Nm → Option Value), RangeIs nmK wr (w.heap.size + 1) w1.heap.size l.length f todo cnt ∧ FIs W0 f (fun k => if todo k = true then firstOf l k else (firstOf l k).map (asOf ep)) ∧ Below W0.heap.size W0 wr ∧ wr.heap[w.heap.size]? = some (.cells #[.int .u64 ep] 23 (0, 0)))
    (fun _ wr => wr.rangeLeft (w.heap.size + 1) w1.heap.size)
  case atStart =>
    refine ⟨_, cnt2, f1, hrg2, hF1.congr (fun k hk => ?_), hB2, hep2⟩
    rcases hF1 k hk with ⟨h1, h2⟩ | ⟨u, x, h1, h2, _⟩ <;> simp [h1, h2]
  case round =>
    obtain ⟨todo, cnt, f, hrg, hF, hBr, hep⟩ := hrel
    have hce : wr.cell? ⟨w.heap.size, 0, none⟩ = some (.int .u64 ep) := blk_cell hep 0
    go_wp2_with (first
      | (at_next; refine wpList_next_map _ rfl _ rfl rfl hrg ?_ ?_)
      | go_in)
    · intro _ hl0
      have hF2 : FIs W0 f (fun k => (firstOf l k).map (asOf ep)) := hF.congr (fun k hk => by simp [hl0 k hk])
      have hm2 := hrg.map
      have hdel : ∀ (W : World) (a : Nm) (x : Ver) (A : Option Addr) (c : Nat), wr.grownBy W (some (w.heap.size + 1)) → Nok a → (firstOf l a).map (asOf ep) = some x → f a = some (.agg #[.int .u64 x.f0.f0, .int .u32 x.f0.f1, .slice A x.f1.length c, .int .u64 x.f2]) →
          Calls Try.prog 27 (#[.agg #[.int .u64 a.f0, .int .u32 a.f1], .agg #[.int .u64 x.f0.f0, .int .u32 x.f0.f1, .slice A x.f1.length c, .int .u64 x.f2]] ++ #[.pointer (some ⟨w.heap.size, 0, none⟩)]) W fun e w' => e = .returned (.bool (decide (ep < a.f0))) ∧ W.grownBy w' none :=
        fun W a x A c hg _ _ _ => upto1_any a _ x ⟨A, c, rfl⟩ w.heap.size ep W (blk_cell (blk_grown hep hg (by intro e; injection e with e; omega)) 0)
      have hFt : ∀ k, Nok k → ((f k).filter (fun _ => !decide (ep < k.f0)) = none ∧ uptoF l ep k = none) ∨ ((f k).filter (fun _ => !decide (ep < k.f0)) = f k ∧ uptoF l ep k = (firstOf l k).map (asOf ep)) := fun k hk => by
        by_cases e : ep < k.f0
        · left; constructor
          · cases f k <;> simp [e, Option.filter]
          · simp [uptoF, e]
        · right; constructor
          · cases f k <;> simp [e, Option.filter]
          · simp [uptoF, e]
      have hF3 : FIs W0 (fun k => (f k).filter (fun _ => !decide (ep < k.f0))) (uptoF l ep) := fun k hk => by
        rcases hFt k hk with ⟨h1, h2⟩ | ⟨h1, h2⟩
        · exact .inl ⟨h2, h1⟩
        · show (uptoF l ep k = none ∧ (f k).filter _ = none) ∨ ∃ u x, (f k).filter _ = some u ∧ uptoF l ep k = some x ∧ VerAt W0 u x
          rw [h1, h2]; exact hF2 k hk
      go_wp2_with (first
        | (go_at_call 26; refine (deleteFunc_any (w.heap.size + 1) l.length f (fun k => (firstOf l k).map (asOf ep)) (fun a _ => decide (ep < a.f0)) 27 _ _ (fun args w => by kernel_rfl) hm2 (hF2.below hBr) hdel).mono ?_; rintro e w5 ⟨rfl, hm5, hg5⟩; have hB5 : Below W0.heap.size W0 w5 := hBr.grown hg5 hBr.size (fun k e => by cases e; omega))
        | (go_at_call 28; refine (told_any (w.heap.size + 1) l.length (uptoF l ep) _ _ hm5 (hF3.below hB5) ?_ hb ?_).mono ?_)
        | go_in)
      · intro k x hk
        unfold uptoF at hk
        split at hk
        · cases hk
        · obtain ⟨y, hy, rfl⟩ := Option.map_eq_some_iff.1 hk
          rw [asOf_f0]; exact firstOf_f0 l k y hy
      · intro k x hk
        unfold uptoF at hk
        split at hk
        · cases hk
        · obtain ⟨y, hy, rfl⟩ := Option.map_eq_some_iff.1 hk
          rw [asOf_f1]; exact hrow _ (firstOf_mem l k y hy)
      · rintro e w6 ⟨v, L, rfl, hT, hLl, hS, hB6⟩
        have hBw5 : Below w.heap.size w w5 := btr' hBw hB5
        go_wp2
        go_ret
        exact ⟨v, L, w5, rfl, hT, hLl, hBw5, hS, btr' hBw5 hB6⟩
    · intro a v w3 cnt3 hak htd hfv hrg3 hlt hg3 hs3 hen
      rw [nmK_val] at hen
      obtain ⟨x, hFx, Ax, cx, rfl, hlx, hCx⟩ := hF.get hak hfv
      have hFx' : firstOf l a = some x := by simpa [htd] using hFx
      have hep3 := blk_grown hep hg3 (by have := blk_lt hep1; intro e; injection e with e; omega)
      have hce3 : w3.cell? ⟨w.heap.size, 0, none⟩ = some (.int .u64 ep) := blk_cell hep3 0
      have hB3 : Below W0.heap.size W0 w3 := hBr.grown hg3 hBr.size (fun k e => by cases e; exact hB1.size)
      have hmw := hrg3.map.lt
      have hk3 := hrg3.lt
      have hBx : Below w3.heap.size w3 ((w3.alloc (.cells #[.int .u64 a.f0, .int .u32 a.f1] tNm)).alloc (.cells #[.int .u64 x.f0.f0, .int .u32 x.f0.f1, .slice Ax x.f1.length cx, .int .u64 x.f2] tVer)) := by repeat (first | exact Below.refl _ _ | apply below_alloc)
      have hce4 := pw_cell_below hBx hce3
      cases hgt : decide (ep < x.f2)
      · go_wp2
        have hrg4 := hrg3.at (hBx.block _ hmw) (hBx.block _ hk3)
        go_roundw
        case rel =>
          refine ⟨_, cnt3, f, hrg4, hF.congr (fun z hz => ?_), btr' hB3 hBx, blk_below hep3 hBx⟩
          by_cases e : z = a
          · subst e
            have : asOf ep x = x := by unfold asOf; rw [if_neg (by simpa using hgt)]
            simp [htd, hFx', this]
          · simp [e]
        case measure => rw [hrg4.left_eq, hrg.left_eq]; exact hlt
      · have hB5 : Below w3.heap.size w3 ((w3.alloc (.cells #[.int .u64 a.f0, .int .u32 a.f1] tNm)).alloc (.cells #[.int .u64 x.f0.f0, .int .u32 x.f0.f1, .slice Ax x.f1.length cx, .int .u64 0] tVer)) := by repeat (first | exact Below.refl _ _ | apply below_alloc)
        have hrg4 := hrg3.at (hB5.block _ hmw) (hB5.block _ hk3)
        have hep5 := blk_below hep3 hB5
        go_wp2_with (first
          | (at_mapUpdate; refine wpList_put_range _ rfl _ _ _ tMap rfl tVer Try.underlying52 rfl hrg4 (by unfold maxLen; omega) a hak (by rw [hfv]; rfl) rfl (.agg #[.int .u64 x.f0.f0, .int .u32 x.f0.f1, .slice Ax x.f1.length cx, .int .u64 0]) rfl ?_; intro w5 hrg5 hturn5; go_frame)
          | go_in)
        go_roundw
        case rel =>
          refine ⟨_, cnt3, _, hrg5, (hF.upd_ a (x := ⟨x.f0, x.f1, 0⟩) ⟨Ax, cx, rfl, hlx, hCx⟩).congr (fun z hz => ?_), (btr' hB3 hB5).grown hturn5.grown (btr' hB3 hB5).size (fun k e => by cases e; omega), blk_grown hep5 hturn5.grown (by intro e; injection e with e; omega)⟩
          unfold updV
          by_cases e : z = a
          · subst e
            have : asOf ep x = ⟨x.f0, x.f1, 0⟩ := by unfold asOf; rw [if_pos (by simpa using hgt)]
            simp [hFx', this]
          · simp [e]
        case measure => rw [hrg5.left_eq, hrg.left_eq]; exact hlt
end Go.Proofs.Ytfepfpcilmaojaa.QV
