/- recover.rising: the versions of a map, by rising names. -/
import Derived.Test.YtfepfpcilmaojaaSorted
import Derived.Maps.AppendAt
namespace Go.Proofs.Ytfepfpcilmaojaa.QV
open Go.RowKit Go.Proofs.YtfepfpcilmaojaaW.PrintWords Go.Proofs.Ytfepfpcilmaojaa.Seq Go.Proofs.Ytfepfpcilmaojaa.Mp Go.Shelf
set_option linter.unusedVariables false
set_option linter.unusedSimpArgs false
set_option maxRecDepth 100000
abbrev kNm : Kd Nm := k31
/-- A version as it lies: with its row's place. -/
structure RawV where
  x : Ver
  A : Option Addr
  c : Nat
def RawV.cells (r : RawV) : List Value := [.int .u64 r.x.f0.f0, .int .u32 r.x.f0.f1, .slice r.A r.x.f1.length r.c, .int .u64 r.x.f2]
def RawV.good (w : World) (r : RawV) : Prop := r.x.f1.length ≤ r.c ∧ kS.C w r.A r.x.f1.length r.x.f1
theorem RawV.good.below {w w' : World} {r : RawV} (h : r.good w) (hb : Below w.heap.size w w') : r.good w' := ⟨h.1, Kd.C_below h.2 hb⟩
theorem reps_nm (w : World) : ∀ ys : List Nm, Reps (kNm.K w) 2 ys (ys.flatMap nmC)
  | [] => Reps.none _ _
  | y :: ys => by
    rw [List.flatMap_cons]
    exact Reps.c2 (k31_mk w y) (reps_nm w ys)
theorem nm_at {w : World} {A : Option Addr} {l : List Nm} (h : kNm.C w A l.length l) (i : Nat) (hi : i < l.length) :
    ∃ ad, A = some ad ∧ w.cell? (ad.add (i * 2)) = some (.int .u64 (l.getD i z31).f0) ∧ w.cell? ⟨(ad.add (i * 2)).block, (ad.add (i * 2)).off + 1, none⟩ = some (.int .u32 (l.getD i z31).f1) := by
  obtain ⟨ad, c, e, hcl, hK, hc⟩ := Kd.C_get h z31 (i : Int) (by omega) (by omega)
  have hx : l.getD (i : Int).toNat z31 = l.getD i z31 := rfl
  rw [hx] at hK
  have hcs := k31_open hK
  subst hcs
  have hs : kNm.sz = 2 := rfl
  have hc' : ∀ j u, [Value.int .u64 (l.getD i z31).f0, .int .u32 (l.getD i z31).f1][j]? = some u → w.cell? (ad.add (i * 2 + j)) = some u := fun j u hj => by
    have := hc j u hj; rwa [hs, Int.toNat_natCast] at this
  exact ⟨ad, e, hc' 0 _ rfl, by rw [← add_field ad (i * 2) 1 (by omega)]; exact hc' 1 _ rfl⟩
theorem infoVer' : ∃ i, Try.prog.info? tVer = some i ∧ i.zero = some (.agg #[.int .u64 0, .int .u32 0, .slice none 0 0, .int .u64 0]) ∧ i.size = 4 ∧ i.bytes = 48 := by
  have h : (Try.prog.info? tVer).map (fun i => (i.zero, i.size, i.bytes)) = some (some (.agg #[.int .u64 0, .int .u32 0, .slice none 0 0, .int .u64 0]), 4, 48) := by kernel_rfl
  obtain ⟨i, hi, h2⟩ := Option.map_eq_some_iff.1 h
  simp at h2
  exact ⟨i, hi, h2.1, h2.2.1, h2.2.2⟩

theorem own_lower' {W : World} {base base' : Nat} {e : TypeId} {size : Nat} {v : Value} {k : Nat} {xs : List Value} (h : W.ownsRow base e size v k xs) (hb : base' ≤ base) : W.ownsRow base' e size v k xs := by
  refine ⟨h.1, ?_⟩
  rcases h.2 with hn | ⟨g, cap, cur, hv, hbg, rest⟩
  · exact .inl hn
  · exact .inr ⟨g, cap, cur, hv, Nat.le_trans hb hbg, rest⟩
set_option maxHeartbeats 4000000 in
theorem rising_any (b n : Nat) (f : Nm → Option Value) (F : Nm → Option Ver) (w : World) (hm : MapIs nmK w b n f) (hF : FIs w f F) (hFk : ∀ k x, F k = some x → x.f0 = k) (hn : n * 48 ≤ 140737488355328) :
    Calls Try.prog 39 #[.map (some b), .func (.func 40) #[] #[]] w fun e w' => ∃ (v : Value) (xs ys : List Nm) (rs : List RawV), e = .returned v ∧ AllOf f xs ∧ xs.length ≤ n ∧ ys.Perm xs ∧ Rising ys ∧ rs.map (fun r : RawV => r.x.f0) = ys ∧ (∀ r ∈ rs, r.good w ∧ F r.x.f0 = some r.x) ∧
      w'.ownsRow w.heap.size tVer 4 v rs.length (rs.flatMap RawV.cells) ∧ Below w.heap.size w w' := by
  obtain ⟨i0, hi, hz0, hz1, hz2⟩ := infoVer'
  go_enter Try.func39, Try.ntmps39
  go_wp2_with (first
    | (go_at_call 45; refine (keys_any _ _).mono ?_; rintro e w1 ⟨rfl, rfl⟩)
    | (go_at_call 44; refine (sorted_any 51 _ n (fun xs => xs.length ≤ n ∧ AllOf f xs) _ _ (fun args w => by kernel_rfl) (keys_seq w.heap.size b n f _ (by simp) (blk_cell (blk_new w _) 0) (hm.below (below_alloc (Below.refl _ _) _))) (Below.refl _ _) (by omega) (fun xs h => h.1)).mono ?_; rintro e w2 ⟨v, xs, ys, rfl, ⟨hxn, hall⟩, hp, hrs, ho, hB2⟩; obtain ⟨Ak, ck, rfl, hCk⟩ := own_reads_row ho (reps_nm w2 ys) rfl)
    | go_in)
  have hB12 : Below w.heap.size w w2 := btr' (below_alloc (Below.refl _ _) _) hB2
  have hyn : ys.length ≤ n := by rw [hp.length_eq]; exact hxn
  have hmax : ys.length ≤ 9223372036854775807 := hCk.2.1
  replace hCk : kNm.C w2 Ak ys.length ys := hCk
  have hyok : ∀ y ∈ ys, Nok y ∧ (f y).isSome = true := fun y hy => by
    have h1 := hp.subset hy
    have h2 := hall.2.1 y h1
    exact ⟨h2, (hall.2.2 y h2).2 h1⟩
  go_loopw [5, 13] (fun u i wr => ∃ (k : Nat) (rs : List RawV), k ≤ ys.length ∧ i = .int .i64 k ∧ rs.length = k ∧ rs.map (fun r : RawV => r.x.f0) = ys.take k ∧ (∀ r ∈ rs, r.good w ∧ F r.x.f0 = some r.x) ∧ wr.ownsRow w2.heap.size tVer 4 u rs.length (rs.flatMap RawV.cells) ∧ Below w2.heap.size w2 wr)
    (fun _ i _ => ys.length - (intOf i).toNat)
  case atStart => exact ⟨0, [], Nat.zero_le _, rfl, rfl, rfl, (fun r h => by cases h), ⟨by simp, .inl ⟨rfl, rfl⟩⟩, Below.refl _ _⟩
  case round =>
    obtain ⟨k, rs, hk, rfl, hrl, hrm, hrg, hown, hBr⟩ := hrel
    by_cases hlt : k < ys.length
    · obtain ⟨ad, e, hc0, hc1⟩ := nm_at hCk k hlt
      subst e
      have hts := take_snoc' z31 ys k hlt
      obtain ⟨hy1, hy2⟩ := hyok _ (getD_mem z31 hlt)
      generalize ys.getD k z31 = y at *
      replace hc0 := pw_cell_below hBr hc0
      replace hc1 := pw_cell_below hBr hc1
      have hBw : Below w.heap.size w wr := btr' hB12 hBr
      obtain ⟨u0, hu0⟩ := Option.isSome_iff_exists.1 hy2
      obtain ⟨x, hFx, Ax, cx, rfl, hlx, hCx⟩ := hF.get hy1 hu0
      have hx0 : x.f0 = y := hFk _ _ hFx
      have wk : wrap64 ((k : Int) + 1) = k + 1 := by unfold wrap64; omega
      have hbr : w2.heap.size ≤ wr.heap.size := hBr.size
      go_wp2_with (first
        | (at_lookup; refine wpList_look1_map _ rfl _ _ tMap rfl tVer Try.underlying52 rfl ((hm.below hBw).below (by repeat (first | exact Below.refl _ _ | apply below_alloc))) (zeroVer _) y hy1 rfl ?_; simp only [hu0, Option.getD_some])
        | (at_builtin; refine wpList_append_own_at _ rfl _ _ 22 rfl w2.heap.size tVer i0 _ 4 48 Try.underlying22 hi hz0 hz1 hz2 rfl (by decide) _ rs.length (rs.flatMap RawV.cells) rfl (pw_own_below hown (by repeat (first | exact Below.refl _ _ | apply below_alloc))) _ 1 1 (RawV.cells ⟨x, Ax, cx⟩) rfl rfl (fun j u hj => ?_) (by simp [RawV.cells, Value.oneCell']) (by unfold maxLen; omega) (by omega) (by simp; omega) ?_)
        | go_in)
      · have h0 := fun j => blk_cell (blk_new (wr.alloc (.cells #[.int .u64 y.f0, .int .u32 y.f1] tNm)) (.cells #[.int .u64 y.f0, .int .u32 y.f1, .slice Ax x.f1.length cx, .int .u64 x.f2] tVer)) j
        rw [World.size_alloc] at h0
        rw [add_plain, h0]
        simpa [RawV.cells, hx0] using hj
      · intro v' w3 hown' hg3 hnil hat3
        go_wp2
        go_roundw
        case rel =>
          have hBx : Below wr.heap.size wr ((wr.alloc (.cells #[.int .u64 y.f0, .int .u32 y.f1] tNm)).alloc (.cells #[.int .u64 y.f0, .int .u32 y.f1, .slice Ax x.f1.length cx, .int .u64 x.f2] tVer)) := by repeat (first | exact Below.refl _ _ | apply below_alloc)
          refine ⟨k + 1, rs ++ [⟨x, Ax, cx⟩], by omega, by go_num, by simp [hrl], ?_, ?_, ?_, (btr' hBr hBx).grown hg3 (by have := hBx.size; omega) (fun k e => own_base hown k e)⟩
          · rw [List.map_append, hrm, ← hts]
            simp [hx0]
          · intro r hr
            rcases List.mem_append.1 hr with h | h
            · exact hrg r h
            · simp at h; subst h; exact ⟨⟨hlx, hCx⟩, by rw [← hFx]; exact congrArg F hx0⟩
          · simpa [List.flatMap_append, hrl] using hown'
        case measure => simp [intOf]; omega
    · obtain rfl : k = ys.length := by omega
      rw [List.take_length] at hrm
      go_wp2
      go_ret
      exact ⟨_, xs, ys, rs, rfl, hall, hxn, hp, hrs, hrm, hrg, own_lower' hown hB12.size, btr' hB12 hBr⟩
end Go.Proofs.Ytfepfpcilmaojaa.QV
