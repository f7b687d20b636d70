/- recover.keyed at versions, and once: the first version of each name. -/
import Derived.Test.YtfepfpcilmaojaaMap
import Derived.Test.YtfepfpcilmaojaaRoundW
import Derived.Lib.Hide
import Derived.Handy
namespace Go.Proofs.Ytfepfpcilmaojaa.QV
open Go.RowKit Go.Proofs.YtfepfpcilmaojaaW.PrintWords Go.Proofs.Ytfepfpcilmaojaa.SeqW Go.Proofs.Ytfepfpcilmaojaa.Mp
set_option linter.unusedVariables false
set_option linter.unusedSimpArgs false
set_option maxRecDepth 100000
theorem btr' {a b c : World} (h : Below a.heap.size a b) (k : Below b.heap.size b c) : Below a.heap.size a c := h.trans (k.mono h.size)
theorem wp_at {P : Program} {c : Code} {Q : Exit → Act → World → Prop} {a : Act} {W : World} (S : World → Prop) (h : S W) (k : ∀ W, S W → Code.wp P c Q a W) : Code.wp P c Q a W := k W h
theorem name_any (x : Ver) (A : Option Addr) (c : Nat) (w : World) (h1 : x.f1.length ≤ c) (h2 : kS.C w A x.f1.length x.f1) :
    Calls Try.prog 38 #[.agg #[.int .u64 x.f0.f0, .int .u32 x.f0.f1, .slice A x.f1.length c, .int .u64 x.f2]] w fun e w' => e = .returned (.agg #[.int .u64 x.f0.f0, .int .u32 x.f0.f1]) ∧ Below w.heap.size w w' := by
  go_enter Try.func38, Try.ntmps38
  go_wp2
  go_returns
  exact ⟨rfl, ((Below.refl _ _).alloc (Nat.le_refl _) _).alloc (by simp) _⟩

theorem getD_mem {α : Type} (z : α) {l : List α} {i : Nat} (h : i < l.length) : l.getD i z ∈ l := by
  rw [List.getD_eq_getElem?_getD, List.getElem?_eq_getElem h]; exact List.getElem_mem h
theorem take_snoc' {α : Type} (z : α) (l : List α) (i : Nat) (h : i < l.length) : l.take i ++ [l.getD i z] = l.take (i + 1) := by
  rw [List.take_succ_eq_append_getElem h, List.getD_eq_getElem?_getD, List.getElem?_eq_getElem h]; rfl
/-- The cells of the i-th version. -/
theorem ver_at {w : World} {A : Option Addr} {l : List Ver} (h : kVer.C w A l.length l) (i : Nat) (hi : i < l.length) :
    ∃ ad, A = some ad ∧ w.cell? (ad.add (i * 4)) = some (.int .u64 (l.getD i z34).f0.f0) ∧ w.cell? ⟨(ad.add (i * 4)).block, (ad.add (i * 4)).off + 1, none⟩ = some (.int .u32 (l.getD i z34).f0.f1) ∧
      ∃ Ax cx, w.cell? ⟨(ad.add (i * 4)).block, (ad.add (i * 4)).off + 2, none⟩ = some (.slice Ax (l.getD i z34).f1.length cx) ∧ (l.getD i z34).f1.length ≤ cx ∧ kS.C w Ax (l.getD i z34).f1.length (l.getD i z34).f1 ∧
      w.cell? ⟨(ad.add (i * 4)).block, (ad.add (i * 4)).off + 3, none⟩ = some (.int .u64 (l.getD i z34).f2) := by
  obtain ⟨ad, c, e, hcl, hK, hc⟩ := Kd.C_get h z34 (i : Int) (by omega) (by omega)
  have hx : l.getD (i : Int).toNat z34 = l.getD i z34 := rfl
  rw [hx] at hK
  obtain ⟨A2, c2, rfl, h2, h3⟩ := k34_open hK
  have hs : kVer.sz = 4 := rfl
  have hc' : ∀ j u, [Value.int .u64 (l.getD i z34).f0.f0, .int .u32 (l.getD i z34).f0.f1, .slice A2 (l.getD i z34).f1.length c2, .int .u64 (l.getD i z34).f2][j]? = some u → w.cell? (ad.add (i * 4 + j)) = some u := fun j u hj => by
    have := hc j u hj; rwa [hs, Int.toNat_natCast] at this
  have hf : ∀ j, 0 < j → ad.add (i * 4 + j) = ⟨(ad.add (i * 4)).block, (ad.add (i * 4)).off + j, none⟩ := fun j hj => add_field ad (i * 4) j hj
  exact ⟨ad, e, hc' 0 _ rfl, by rw [← hf 1 (by omega)]; exact hc' 1 _ rfl, A2, c2, by rw [← hf 2 (by omega)]; exact hc' 2 _ rfl, h2, h3, by rw [← hf 3 (by omega)]; exact hc' 3 _ rfl⟩

set_option maxHeartbeats 4000000 in
theorem keyed_any (A : Option Addr) (l : List Ver) (c : Nat) (w0 w : World) (hb0 : Below w0.heap.size w0 w) (hr : kVer.C w0 A l.length l) (hc : l.length ≤ c) (hok : ∀ x ∈ l, Nok x.f0) (hb : l.length < 9223372036854775807) :
    Calls Try.prog 37 #[.slice A l.length c, .func (.func 38) #[] #[]] w fun e w' => e = .returned (.map (some w.heap.size)) ∧ (∃ f, MapIs nmK w' w.heap.size l.length f ∧ FIs w0 f (firstOf l)) ∧ Below w.heap.size w w' := by
  have hmm := @run_makeMap Try.prog
  go_enter Try.func37, Try.ntmps37
  go_wp2
  go_loopw [13] (fun i wr => ∃ k : Nat, k ≤ l.length ∧ i = .int .i64 k ∧ (∃ f, MapIs nmK wr w.heap.size k f ∧ FIs w0 f (firstOf (l.take k))) ∧ Below w.heap.size w wr)
    (fun i _ => l.length - (intOf i).toNat)
  case atStart => exact ⟨0, Nat.zero_le _, rfl, ⟨_, MapIs.made w, fun k _ => .inl ⟨rfl, rfl⟩⟩, (Below.refl _ _).alloc (Nat.le_refl _) _⟩
  case round =>
    obtain ⟨k, hk, rfl, hM, hB⟩ := hrel
    by_cases hlt : k < l.length
    · obtain ⟨ad, e, hc0, hc1, Ax, cx, hc2, hlx, hCw, hc3⟩ := ver_at hr k hlt
      have hBa := btr' hb0 hB
      have hCx := Kd.C_below hCw hBa
      replace hc0 := pw_cell_below hBa hc0
      replace hc1 := pw_cell_below hBa hc1
      replace hc2 := pw_cell_below hBa hc2
      replace hc3 := pw_cell_below hBa hc3
      subst e
      have hx0 := hok _ (getD_mem z34 hlt)
      have hts := take_snoc' z34 l k hlt
      have hfs := firstOf_snoc (l.take k) (l.getD k z34)
      rw [hts] at hfs
      generalize l.getD k z34 = x at *
      obtain ⟨f, hMf, hF⟩ := hM
      have wk : wrap64 ((k : Int) + 1) = k + 1 := by unfold wrap64; omega
      rcases hF x.f0 hx0 with ⟨h1, h2⟩ | ⟨u, y, h1, h2, Ay, cy, rfl, hly, hCy⟩
      · go_wp2_with (first
          | (at_lookup; refine wpList_look_map _ rfl _ _ tMap rfl tVer Try.underlying52 rfl (hMf.below (by repeat (first | exact Below.refl _ _ | apply below_alloc))) (zeroVer _) x.f0 hx0 rfl ?_; simp only [h1, Option.getD_none, Option.isSome_none])
          | go_in)
        refine wp_at (S := fun W => Below wr.heap.size wr W ∧ W.heap[wr.heap.size]? = some (.cells #[.int .u64 x.f0.f0, .int .u32 x.f0.f1, .slice Ax x.f1.length cx, .int .u64 x.f2] tVer (0, 0))) ⟨by repeat (first | exact Below.refl _ _ | apply below_alloc), blk_below (blk_new wr _) (by repeat (first | exact Below.refl _ _ | apply below_alloc))⟩ ?_
        rintro W0 ⟨hB0, hb7⟩
        have S0 : ∀ V, Below W0.heap.size W0 V → V.cell? ⟨wr.heap.size, 0, none⟩ = some (.int .u64 x.f0.f0) ∧ V.cell? ⟨wr.heap.size, 1, none⟩ = some (.int .u32 x.f0.f1) ∧ V.cell? ⟨wr.heap.size, 2, none⟩ = some (.slice Ax x.f1.length cx) ∧ V.cell? ⟨wr.heap.size, 3, none⟩ = some (.int .u64 x.f2) :=
          fun V hV => ⟨blk_cell (blk_below hb7 hV) 0, blk_cell (blk_below hb7 hV) 1, blk_cell (blk_below hb7 hV) 2, blk_cell (blk_below hb7 hV) 3⟩
        refine (wpIn_wide (n := 0)).1 ?_
        refine wpIn_region_R (l := 0) 5 (S := fun V => V.cell? ⟨wr.heap.size, 0, none⟩ = some (.int .u64 x.f0.f0) ∧ V.cell? ⟨wr.heap.size, 1, none⟩ = some (.int .u32 x.f0.f1) ∧ V.cell? ⟨wr.heap.size, 2, none⟩ = some (.slice Ax x.f1.length cx) ∧ V.cell? ⟨wr.heap.size, 3, none⟩ = some (.int .u64 x.f2)) (by kernel_rfl) (S0 _ (below_drew (Below.refl _ _))) (fun hS0 => ?_)
        refine wpAnyR_take (i := 0) (oi := ⟨some 27, _, _, _, _, _⟩) (v := ?_) (by kernel_rfl) (by kernel_rfl) rfl (by kernel_rfl) (by kernel_rfl) (by kernel_rfl) (fun _ _ _ h => h) (Or.inl ⟨by rfl, ?_⟩) (by assumption) ?_
        rotate_left
        · intro w hSw; (try dsimp only at hSw); (try go_split_ands); go_simp; (try (with_reducible rfl))
        (try simp only [Act.put, List.setIfInBounds_toArray, List.set_cons_zero, List.set_cons_succ])
        refine wpAnyR_take (i := 1) (oi := ⟨some 28, _, _, _, _, _⟩) (v := ?_) (by kernel_rfl) (by kernel_rfl) rfl (by kernel_rfl) (by kernel_rfl) (by kernel_rfl) (fun _ _ _ h => h) (Or.inl ⟨by rfl, ?_⟩) (by assumption) ?_
        rotate_left
        · intro w hSw; (try dsimp only at hSw); (try go_split_ands); go_simp; (try (with_reducible rfl))
        (try simp only [Act.put, List.setIfInBounds_toArray, List.set_cons_zero, List.set_cons_succ])
        refine wpAnyR_take (i := 2) (oi := ⟨some 29, _, _, _, _, _⟩) (v := ?_) (by kernel_rfl) (by kernel_rfl) rfl (by kernel_rfl) (by kernel_rfl) (by kernel_rfl) (fun _ _ _ h => h) (Or.inl ⟨by rfl, ?_⟩) (by assumption) ?_
        rotate_left
        · intro w hSw; (try dsimp only at hSw); (try go_split_ands); go_simp; (try (with_reducible rfl))
        (try simp only [Act.put, List.setIfInBounds_toArray, List.set_cons_zero, List.set_cons_succ])
        refine wpAnyR_take (i := 4) (oi := ⟨some 31, _, _, _, _, _⟩) (v := ?_) (by kernel_rfl) (by kernel_rfl) rfl (by kernel_rfl) (by kernel_rfl) (by kernel_rfl) (fun _ _ _ h => h) (Or.inl ⟨by rfl, ?_⟩) (by assumption) ?_
        rotate_left
        · intro w hSw; (try dsimp only at hSw); (try go_split_ands); go_simp; (try (with_reducible rfl))
        (try simp only [Act.put, List.setIfInBounds_toArray, List.set_cons_zero, List.set_cons_succ])
        refine wpAnyR_one (i := 3) (o := ⟨some 30, _, _, _, _, _⟩) (by kernel_rfl) (by kernel_rfl) rfl (fun K hK => ?_)
        go_simp
        refine (name_any x Ax cx _ hlx (Kd.C_drew (Kd.C_below hCx hB0))).mono ?_
        rintro e W1 ⟨rfl, hB1⟩
        have hB01 := btr' (below_drew (Below.refl _ W0)) hB1
        (try dsimp only)
        refine hK.out _ _ (.inr (S0 _ hB01)) ?_
        clear hK K
        (try simp only [Act.put, List.setIfInBounds_toArray, List.set_cons_zero, List.set_cons_succ])
        refine wpAnyR_one (i := 5) (o := ⟨none, _, _, _, _, _⟩) (by kernel_rfl) (by kernel_rfl) rfl (fun K hK => ?_)
        obtain ⟨W2, hr2, hM2, hT2⟩ := ((hMf.below hB0).below hB01).put_ (tm := tMap) (e := tVer) Try.underlying52 (by unfold maxLen; omega) hx0 (.agg #[.int .u64 x.f0.f0, .int .u32 x.f0.f1, .slice Ax x.f1.length cx, .int .u64 x.f2])
        have hr2' : (Instr.mapUpdate tMap (.map (some w.heap.size)) (.agg #[.int .u64 x.f0.f0, .int .u32 x.f0.f1]) (.agg #[.int .u64 x.f0.f0, .int .u32 x.f0.f1, .slice Ax x.f1.length cx, .int .u64 x.f2])).run Try.prog W1 = .ok () W2 := hr2
        go_simp
        refine hK.out _ _ (.inl rfl) ?_
        clear hK K
        (try simp only [Act.put, List.setIfInBounds_toArray, List.set_cons_zero, List.set_cons_succ])
        refine wpAnyR_done (by kernel_rfl) ?_ _
        have hB02 := (hB.trans (hB0.mono hB.size)).trans (hB01.mono (Nat.le_trans hB.size hB0.size))
        have hbw := hMf.lt
        go_wp2
        go_roundw
        case rel =>
          refine ⟨k + 1, by omega, by go_num, ⟨_, hM2, ?_⟩, turned_below hB02 hT2 (Nat.le_refl _)⟩
          rw [hfs, h1, if_neg (by simp)]
          exact hF.upd_ x.f0 ⟨Ax, cx, rfl, hlx, hCw⟩
        case measure => simp [intOf]; omega
      · go_wp2_with (first
          | (at_lookup; refine wpList_look_map _ rfl _ _ tMap rfl tVer Try.underlying52 rfl (hMf.below (by repeat (first | exact Below.refl _ _ | apply below_alloc))) (zeroVer _) x.f0 hx0 rfl ?_; simp only [h1, Option.getD_some, Option.isSome_some])
          | go_in)
        go_roundw
        case rel =>
          refine ⟨k + 1, by omega, by go_num, ?_, hB.trans ((by repeat (first | exact Below.refl _ _ | apply below_alloc) : Below wr.heap.size wr _).mono hB.size)⟩
          rw [hfs, h2, if_pos (by simp)]
          exact ⟨f, (hMf.mono (Nat.le_succ _)).below (by repeat (first | exact Below.refl _ _ | apply below_alloc)), hF⟩
        case measure => simp [intOf]; omega
    · obtain rfl : k = l.length := by omega
      rw [List.take_length] at hM
      go_wp2
      go_ret
      obtain ⟨f, h1, h2⟩ := hM
      exact ⟨rfl, ⟨f, h1, h2⟩, hB⟩
end Go.Proofs.Ytfepfpcilmaojaa.QV
