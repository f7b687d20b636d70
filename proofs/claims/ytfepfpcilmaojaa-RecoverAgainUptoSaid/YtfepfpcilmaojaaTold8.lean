/- recover.told: the versions of a map, by rising names, each with a row of its own. -/
import Derived.Test.YtfepfpcilmaojaaRising
import Derived.Test.YtfepfpcilmaojaaCloneR
namespace Go.Proofs.Ytfepfpcilmaojaa.QV
open Go.RowKit Go.Proofs.YtfepfpcilmaojaaW.PrintWords Go.Proofs.Ytfepfpcilmaojaa.Seq Go.Proofs.Ytfepfpcilmaojaa.Mp Go.Shelf
set_option linter.unusedVariables false
set_option linter.unusedSimpArgs false
set_option maxRecDepth 100000
theorem own_set {w : World} {base g n cap sz j : Nat} {e : TypeId} {cs : List Value} (h : w.ownsRow base e sz (.slice (some ⟨g, 0, none⟩) n cap) n cs) (hj : j < cs.length) (u : Value) :
    (w.setCell ⟨g, j, none⟩ u).ownsRow base e sz (.slice (some ⟨g, 0, none⟩) n cap) n (cs.set j u) := by
  obtain ⟨h1, h2⟩ := h
  rcases h2 with ⟨hv, _⟩ | ⟨g', cap', cur, hv, hb, hh, h3, h4, h5, h6⟩
  · cases hv
  · injection hv with e1 e2 e3
    injection e1 with e1
    injection e1 with e1
    subst e1; subst e3
    refine ⟨by simpa using h1, .inr ⟨g, cap, _, rfl, hb, blk_set hh j u, h3, h4, by simpa using h5, ?_⟩⟩
    rw [Array.toList_setIfInBounds, List.take_set, h6]
theorem cells_len (r : RawV) : r.cells.length = 4 := rfl
theorem flat_set : ∀ (rs : List RawV) (i : Nat) (r' : RawV) (u : Value), i < rs.length → (∀ r, rs[i]? = some r → r'.cells = r.cells.set 2 u) → (rs.set i r').flatMap RawV.cells = (rs.flatMap RawV.cells).set (i * 4 + 2) u
  | [], i, r', u, h, _ => by simp at h
  | r :: rs, 0, r', u, h, hc => by
    rw [List.set_cons_zero, List.flatMap_cons, List.flatMap_cons, hc r rfl, List.set_append_left _ _ (by rw [cells_len]; omega)]
  | r :: rs, i + 1, r', u, h, hc => by
    rw [List.set_cons_succ, List.flatMap_cons, List.flatMap_cons, flat_set rs i r' u (by simpa using h) (fun r hr => hc r (by simpa using hr)), List.set_append_right _ _ (by rw [cells_len]; omega), cells_len]
    congr 2
    omega
theorem flat_at (rs : List RawV) (i : Nat) (h : i < rs.length) (j : Nat) (hj : j < 4) : (rs.flatMap RawV.cells)[i * 4 + j]? = (rs[i]).cells[j]? := by
  induction rs generalizing i with
  | nil => simp at h
  | cons r rs ih =>
    rw [List.flatMap_cons]
    cases i with
    | zero => rw [List.getElem?_append_left (by rw [cells_len]; omega)]; simp
    | succ i =>
      rw [List.getElem?_append_right (by rw [cells_len]; omega), cells_len, show (i + 1) * 4 + j - 4 = i * 4 + j by omega, ih i (by simpa using h)]
      simp
/-- The map told: its versions, by rising names. -/
def IsTold (F : Nm → Option Ver) (L : List Ver) : Prop := L.Pairwise (fun a b => cmpNm a.f0 b.f0 < 0) ∧ (∀ x ∈ L, Nok x.f0 ∧ F x.f0 = some x) ∧ ∀ k, Nok k → (F k).isSome = true → ∃ x ∈ L, x.f0 = k
theorem told_of {f : Nm → Option Value} {F : Nm → Option Ver} {w : World} {xs ys : List Nm} {rs : List RawV} (hF : FIs w f F) (hall : AllOf f xs) (hp : ys.Perm xs) (hr : Rising ys) (hm : rs.map (fun r : RawV => r.x.f0) = ys) (hg : ∀ r ∈ rs, r.good w ∧ F r.x.f0 = some r.x) : IsTold F (rs.map (·.x)) := by
  have hnd : ys.Nodup := hp.nodup_iff.2 hall.1
  have hlt : ys.Pairwise (fun a b => cmpNm a b < 0) := by
    refine (hr.and hnd).imp ?_
    rintro a b ⟨h1, h2⟩
    rw [cmpNm_neg] at h1
    rw [cmpNm_neg]
    by_cases e : a.f0 = b.f0
    · by_cases e' : a.f1 = b.f1
      · exact absurd (Nm.ext' e e') h2
      · omega
    · omega
  refine ⟨?_, ?_, ?_⟩
  · rw [List.pairwise_map]
    rw [← hm, List.pairwise_map] at hlt
    exact hlt
  · intro x hx
    obtain ⟨r, hr, rfl⟩ := List.mem_map.1 hx
    exact ⟨hall.2.1 _ (hp.subset (by rw [← hm]; exact List.mem_map.2 ⟨r, hr, rfl⟩)), (hg r hr).2⟩
  · intro k hk hs
    rw [← hF.some_ hk, hall.2.2 k hk] at hs
    have := hp.symm.subset hs
    rw [← hm] at this
    obtain ⟨r, hr, e⟩ := List.mem_map.1 this
    exact ⟨r.x, List.mem_map.2 ⟨r, hr, rfl⟩, e⟩

/-- The row of versions between two rounds: the first k have rows of their own, element j's between m j and m (j + 1). -/
structure Mid (w W : World) (g cap N : Nat) (L : List Ver) (k : Nat) (m : Nat → Nat) (rs : List RawV) : Prop where
  len : L.length = N
  own : W.ownsRow w.heap.size tVer 4 (.slice (some ⟨g, 0, none⟩) N cap) N (rs.flatMap RawV.cells)
  vers : rs.map (·.x) = L
  old : ∀ j r, k ≤ j → rs[j]? = some r → r.good w
  new : ∀ j r, j < k → rs[j]? = some r → kS.R tS W w.heap.size (fun b => m j ≤ b ∧ b < m (j + 1)) (.slice r.A r.x.f1.length r.c) r.x.f1
  low : ∀ j, w.heap.size ≤ m j ∧ g < m j
  mono : ∀ j, m j ≤ m (j + 1)
  high : m k ≤ W.heap.size
theorem mono_le {m : Nat → Nat} (h : ∀ j, m j ≤ m (j + 1)) {i j : Nat} (hij : i ≤ j) : m i ≤ m j := by
  induction j with
  | zero => have : i = 0 := by omega
            subst this; exact Nat.le_refl _
  | succ j ih =>
    rcases Nat.lt_or_ge j i with h1 | h1
    · have : i = j + 1 := by omega
      subst this; exact Nat.le_refl _
    · exact Nat.le_trans (ih h1) (h j)
theorem Mid.done {w W : World} {g cap N : Nat} {L : List Ver} {m : Nat → Nat} {rs : List RawV} (h : Mid w W g cap N L N m rs) : Kd.S kVer tVer W w.heap.size (fun _ => True) (.slice (some ⟨g, 0, none⟩) N cap) L := by
  obtain rfl := h.len
  have hl : rs.length = L.length := by rw [← h.vers, List.length_map]
  obtain ⟨f, hf⟩ := Kd.reps_tag (d := kVer) (w := W) (base := w.heap.size) (ok := fun k => True ∧ some k ≠ (Value.slice (some ⟨g, 0, none⟩) L.length cap).ownBlock) (xs := L) (inner := rs.flatMap RawV.cells) (fun j b => j < L.length ∧ m j ≤ b ∧ b < m (j + 1))
    (fun i j b hi hj => by
      rcases Nat.lt_trichotomy i j with e | e | e
      · have := mono_le h.mono (show i + 1 ≤ j by omega); omega
      · exact e
      · have := mono_le h.mono (show j + 1 ≤ i by omega); omega)
    (fun j b hb => ⟨trivial, by have := (h.low j).2; simp [Value.ownBlock]; omega⟩) (by
      exact h.own.1) (fun j x hx => by
      have hj : j < L.length := (List.getElem?_eq_some_iff.1 hx).1
      have hjr : j < rs.length := by omega
      obtain ⟨r, hr⟩ : ∃ r, rs[j]? = some r := ⟨_, List.getElem?_eq_getElem hjr⟩
      have hrx : r.x = x := by
        have := h.vers
        have h2 : (rs.map (·.x))[j]? = some r.x := by rw [List.getElem?_map, hr]; rfl
        rw [this, hx] at h2
        exact (Option.some.inj h2).symm
      have hcells : ((rs.flatMap RawV.cells).drop (j * 4)).take 4 = r.cells := by
        apply List.ext_getElem?
        intro t
        by_cases ht : t < 4
        · rw [List.getElem?_take_of_lt ht, List.getElem?_drop, flat_at rs j hjr t ht]
          rw [List.getElem?_eq_getElem hjr] at hr
          rw [Option.some.inj hr]
        · rw [List.getElem?_take_eq_none (by omega), List.getElem?_eq_none (by rw [cells_len]; omega)]
      rw [show kVer.sz = 4 from rfl, hcells, ← hrx]
      exact k34_mkM _ _ _ _ (Kd.R_mono (h.new j r hj hr) (fun b hb => ⟨hj, hb⟩)))
  refine ⟨f, fun k hk => trivial, rs.flatMap RawV.cells, ?_, hf⟩
  have := h.own
  rwa [List.length_zipIdx]
/-- Nothing lies in the row yet that is the call's own. -/
theorem Mid.start {w W : World} {g cap : Nat} {rs : List RawV} (h : W.ownsRow w.heap.size tVer 4 (.slice (some ⟨g, 0, none⟩) rs.length cap) rs.length (rs.flatMap RawV.cells)) (hg : ∀ r ∈ rs, r.good w) (hB : Below w.heap.size w W) : Mid w W g cap rs.length (rs.map (·.x)) 0 (fun _ => W.heap.size) rs where
  len := List.length_map ..
  own := h
  vers := rfl
  old j r _ hr := hg r (List.mem_of_getElem? hr)
  new j r hj _ := absurd hj (by omega)
  low j := ⟨hB.size, own_lt h g rfl⟩
  mono _ := Nat.le_refl _
  high := Nat.le_refl _
/-- One row is laid anew. -/
theorem Mid.step {w W W1 : World} {g cap N : Nat} {L : List Ver} {k : Nat} {m : Nat → Nat} {rs : List RawV} {r : RawV} {A' : Option Addr} {c' : Nat} (h : Mid w W g cap N L k m rs) (hk : k < N) (hr : rs[k]? = some r) (hB : Below W.heap.size W W1)
    (hR : kS.R tS W1 W.heap.size (fun _ => True) (.slice A' r.x.f1.length c') r.x.f1) :
    ∃ m' rs', Mid w (W1.setCell ⟨g, k * 4 + 2, none⟩ (.slice A' r.x.f1.length c')) g cap N L (k + 1) m' rs' := by
  have hl : rs.length = N := by rw [← h.len, ← h.vers, List.length_map]
  have hkr : k < rs.length := by omega
  have hgW : g < W.heap.size := own_lt h.own g rfl
  have hs1 := hB.size
  refine ⟨fun j => if j ≤ k then m j else W1.heap.size, rs.set k ⟨r.x, A', c'⟩, h.len, ?_, ?_, ?_, ?_, ?_, ?_, ?_⟩
  · have h1 := own_set (j := k * 4 + 2) (pw_own_below h.own hB) (by have := h.own.1; rw [this]; omega) (.slice A' r.x.f1.length c')
    rw [flat_set rs k ⟨r.x, A', c'⟩ (.slice A' r.x.f1.length c') hkr (fun q hq => by rw [hr] at hq; cases hq; rfl)]
    exact h1
  · rw [List.map_set, h.vers]
    have : L[k]? = some r.x := by rw [← h.vers, List.getElem?_map, hr]; rfl
    exact List.ext_getElem? (fun i => by
      rw [List.getElem?_set]
      split
      · rename_i e; subst e; rw [this, if_pos (by rw [h.len]; exact hk)]
      · rfl)
  · intro j q hj hq
    rw [List.getElem?_set_ne (by omega)] at hq
    exact h.old j q (by omega) hq
  · intro j q hj hq
    by_cases e : j = k
    · subst e
      rw [List.getElem?_set_self hkr] at hq
      cases hq
      have h2 := Kd.R_mono (Kd.R_bound hR) (ok' := fun b => m j ≤ b ∧ b < W1.heap.size) (fun b hb => ⟨Nat.le_trans h.high hb.2.1, hb.2.2.1⟩)
      have h3 := Kd.R_far (p := ⟨g, j * 4 + 2, none⟩) h2 (fun b hb => by have := (h.low j).2; show b ≠ g; omega) (.slice A' r.x.f1.length c')
      have h4 := Kd.R_lower h3 (show w.heap.size ≤ W.heap.size from Nat.le_trans (h.low 0).1 (Nat.le_trans (mono_le h.mono (Nat.zero_le j)) h.high))
      have e1 : ¬ (j + 1 ≤ j) := by omega
      simpa [e1] using h4
    · rw [List.getElem?_set_ne (by omega)] at hq
      have h2 := Kd.R_below (h.new j q (by omega) hq) hB
      have h3 := Kd.R_far (p := ⟨g, k * 4 + 2, none⟩) h2 (fun b hb => by have := (h.low j).2; show b ≠ g; omega) (.slice A' r.x.f1.length c')
      simpa [show j ≤ k by omega, show j + 1 ≤ k by omega] using h3
  · intro j
    show w.heap.size ≤ (if j ≤ k then m j else W1.heap.size) ∧ g < (if j ≤ k then m j else W1.heap.size)
    split
    · exact h.low j
    · exact ⟨Nat.le_trans (h.low k).1 (Nat.le_trans h.high hs1), by omega⟩
  · intro j
    show (if j ≤ k then m j else W1.heap.size) ≤ (if j + 1 ≤ k then m (j + 1) else W1.heap.size)
    split
    · split
      · exact h.mono j
      · have := mono_le h.mono (show j ≤ k by omega); have := h.high; omega
    · rw [if_neg (by omega)]; exact Nat.le_refl _
  · show (if k + 1 ≤ k then m (k + 1) else W1.heap.size) ≤ _
    rw [if_neg (by omega)]; simp

/-- v is a row of versions that a call of its own has laid: with nothing in it, or as 'Mid' has it. -/
def OwnV (w W : World) (v : Value) (L : List Ver) : Prop :=
  (L = [] ∧ ∃ A c, v = .slice A 0 c ∧ W.ownsRow w.heap.size tVer 4 (.slice A 0 c) 0 []) ∨ (0 < L.length ∧ ∃ g cap m rs, v = .slice (some ⟨g, 0, none⟩) L.length cap ∧ Mid w W g cap L.length L L.length m rs)
theorem own_nil_S {w : World} {base : Nat} {A : Option Addr} {c : Nat} (h : w.ownsRow base tVer 4 (.slice A 0 c) 0 []) : Kd.S kVer tVer w base (fun _ => True) (.slice A 0 c) [] :=
  ⟨fun _ => 0, fun _ _ => trivial, [], h, Reps.none _ _⟩
theorem OwnV.S {w W : World} {v : Value} {L : List Ver} (h : OwnV w W v L) : Kd.S kVer tVer W w.heap.size (fun _ => True) v L := by
  rcases h with ⟨rfl, A, c, rfl, h⟩ | ⟨_, g, cap, m, rs, rfl, h⟩
  · exact own_nil_S h
  · exact h.done
set_option maxHeartbeats 4000000 in
theorem told_any (b n : Nat) (F : Nm → Option Ver) (f : Nm → Option Value) (w : World) (hm : MapIs nmK w b n f) (hF : FIs w f F) (hFk : ∀ k x, F k = some x → x.f0 = k) (hn : n * 48 ≤ 140737488355328) (hrow : ∀ k x, F k = some x → x.f1.length * 40 ≤ 140737488355328) :
    Calls Try.prog 28 #[.map (some b)] w fun e w' => ∃ v L, e = .returned v ∧ IsTold F L ∧ L.length ≤ n ∧ OwnV w w' v L ∧ Below w.heap.size w w' := by
  go_enter Try.func28, Try.ntmps28
  go_wp2_with (first
    | (go_at_call 39; refine (rising_any b n f F _ hm hF hFk hn).mono ?_; rintro e w1 ⟨v, xs, ys, rs, rfl, hall, hxn, hp, hrs, hmm, hg, ho, hB⟩; obtain ⟨A0, c0, rfl⟩ := own_slice ho)
    | go_in)
  have hT := told_of hF hall hp hrs hmm hg
  have hln : rs.length ≤ n := by rw [← List.length_map (f := fun r : RawV => r.x.f0), hmm, hp.length_eq]; exact hxn
  rcases Nat.eq_zero_or_pos rs.length with h0 | h0
  · have hnil : rs = [] := List.eq_nil_of_length_eq_zero h0
    subst hnil
    go_loopw [9] (fun i wr => i = .int .i64 0 ∧ wr = w1) (fun i _ => 0)
    case atStart => exact ⟨rfl, rfl⟩
    case round =>
      obtain ⟨rfl, rfl⟩ := hrel
      go_wp2
      go_ret
      exact ⟨_, [], rfl, hT, Nat.zero_le _, .inl ⟨rfl, _, _, rfl, ho⟩, hB⟩
  · obtain ⟨g, cap, hv, _, _⟩ := ho.form h0
    injection hv with hv1 _ hv3
    subst hv1; subst hv3
    have hM0 := Mid.start ho (fun r hr => (hg r hr).1) hB
    have hmax : rs.length ≤ 9223372036854775807 := by omega
    have hrowL : ∀ x ∈ rs.map (·.x), x.f1.length * 40 ≤ 140737488355328 := fun x hx => by
      obtain ⟨r, hr, rfl⟩ := List.mem_map.1 hx
      exact hrow _ _ (hg r hr).2
    have hLl : (rs.map (·.x)).length ≤ n := by simpa using hln
    generalize rs.map (·.x) = L at *
    go_loopw [9] (fun i wr => ∃ (k : Nat) (m : Nat → Nat) (rs' : List RawV), k ≤ rs.length ∧ i = .int .i64 k ∧ Mid w wr g c0 rs.length L k m rs' ∧ Below w.heap.size w wr)
      (fun i _ => rs.length - (intOf i).toNat)
    case atStart => exact ⟨0, _, rs, Nat.zero_le _, rfl, hM0, hB⟩
    case round =>
      obtain ⟨k, m, rs', hk, rfl, hM, hBr⟩ := hrel
      by_cases hlt : k < rs.length
      · have hl' : rs'.length = rs.length := by rw [← hM.len, ← hM.vers, List.length_map]
        obtain ⟨r, hr⟩ : ∃ r, rs'[k]? = some r := ⟨_, List.getElem?_eq_getElem (by omega)⟩
        have hgood := hM.old k r (Nat.le_refl _) hr
        have wk : wrap64 ((k : Int) + 1) = k + 1 := by unfold wrap64; omega
        have hxL : r.x.f1.length * 40 ≤ 140737488355328 := hrowL _ (by
          rw [← hM.vers]; exact List.mem_map.2 ⟨r, List.mem_of_getElem? hr, rfl⟩)
        have hq : wr.cell? ⟨g, k * 4 + 2, none⟩ = some (.slice r.A r.x.f1.length r.c) := by
          have h1 := hM.own.cells (g := g) rfl (k * 4 + 2) (.slice r.A r.x.f1.length r.c) (by
            rw [flat_at rs' k (by omega) 2 (by omega)]
            rw [List.getElem?_eq_getElem (by omega)] at hr
            rw [Option.some.inj hr]; rfl)
          rwa [add_plain] at h1
        obtain ⟨cur, hcur⟩ := own_typed hM.own g rfl
        have hgood' := hgood.below hBr
        go_wp2_with (first
          | (go_at_call 41; refine (clone_any r.A r.x.f1 r.c _ hgood'.2 hgood'.1 hxL).mono ?_; rintro e w3 ⟨v3, rfl, hR3, hB3⟩; obtain ⟨A3, c3, rfl⟩ := Kd.R_slice hR3; have hq3 := pw_cell_below hB3 hq; have hf3 : w3.frozen? ⟨g, k * 4 + 2, none⟩ = false := blk_frozen (blk_below hcur hB3) _)
          | go_in)
        go_roundw
        case rel =>
          obtain ⟨m', rs2, hM2⟩ := hM.step hlt hr hB3 hR3
          have hgw : w.heap.size ≤ g := own_base hM.own g rfl
          exact ⟨k + 1, m', rs2, by omega, by go_num, hM2, (btr' hBr hB3).setCell hgw _⟩
        case measure => simp [intOf]; omega
      · obtain rfl : k = rs.length := by omega
        have hO : OwnV w wr (.slice (some ⟨g, 0, none⟩) rs.length c0) L := by
          refine .inr ⟨by rw [hM.len]; exact h0, g, c0, m, rs', by rw [hM.len], ?_⟩
          have hM' := hM
          rw [← hM.len] at hM'
          exact hM'
        go_wp2
        go_ret
        exact ⟨_, rfl, L, hT, hLl, hO, hBr⟩
end Go.Proofs.Ytfepfpcilmaojaa.QV
