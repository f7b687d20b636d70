/- slices.IndexFunc, slices.DeleteFunc of a row of versions of one's own. -/
import Derived.Test.YtfepfpcilmaojaaUpto
import Derived.Lib.SliceRun
namespace Go.Proofs.Ytfepfpcilmaojaa.QV
open Go.RowKit Go.Proofs.YtfepfpcilmaojaaW.PrintWords Go.Proofs.Ytfepfpcilmaojaa.Seq Go.Proofs.Ytfepfpcilmaojaa.Mp Go.Shelf
set_option linter.unusedVariables false
set_option linter.unusedSimpArgs false
set_option maxRecDepth 100000
/-- The elements' blocks lie apart (element q's between m q.2 and m (q.2 + 1)): the row as the print has it. -/
theorem S_parts {w W : World} {base g cap : Nat} {m : Nat → Nat} {zs : List (RawV × Nat)} (hmono : ∀ j, m j ≤ m (j + 1)) (hlow : ∀ j, g < m j)
    (own : W.ownsRow base tVer 4 (.slice (some ⟨g, 0, none⟩) zs.length cap) zs.length ((zs.map Prod.fst).flatMap RawV.cells)) (hz : zs.Pairwise (fun p q => p.2 < q.2))
    (hR : ∀ q ∈ zs, kS.R tS W base (fun b => m q.2 ≤ b ∧ b < m (q.2 + 1)) (.slice q.1.A q.1.x.f1.length q.1.c) q.1.x.f1) :
    Kd.S kVer tVer W base (fun _ => True) (.slice (some ⟨g, 0, none⟩) zs.length cap) (zs.map (·.1.x)) := by
  have hlm : (zs.map (·.1.x)).length = zs.length := List.length_map ..
  obtain ⟨f, hf⟩ := Kd.reps_tag (d := kVer) (w := W) (base := base) (ok := fun k => True ∧ some k ≠ (Value.slice (some ⟨g, 0, none⟩) zs.length cap).ownBlock) (xs := zs.map (·.1.x)) (inner := (zs.map Prod.fst).flatMap RawV.cells) (fun i b => ∃ q, zs[i]? = some q ∧ m q.2 ≤ b ∧ b < m (q.2 + 1))
    (fun i j b ⟨p, hp, hp1, hp2⟩ ⟨q, hq, hq1, hq2⟩ => by
      have hi := (List.getElem?_eq_some_iff.1 hp)
      have hj := (List.getElem?_eq_some_iff.1 hq)
      rcases Nat.lt_trichotomy i j with e | e | e
      · have := List.pairwise_iff_getElem.1 hz i j hi.1 hj.1 e
        rw [hi.2, hj.2] at this
        have := mono_le hmono (show p.2 + 1 ≤ q.2 by omega); omega
      · exact e
      · have := List.pairwise_iff_getElem.1 hz j i hj.1 hi.1 e
        rw [hi.2, hj.2] at this
        have := mono_le hmono (show q.2 + 1 ≤ p.2 by omega); omega)
    (fun j b ⟨q, _, hb, _⟩ => ⟨trivial, by have := hlow q.2; simp [Value.ownBlock]; omega⟩) (by rw [hlm]; exact own.1) (fun j x hx => by
      have hj : j < zs.length := by rw [← hlm]; exact (List.getElem?_eq_some_iff.1 hx).1
      obtain ⟨q, hq⟩ : ∃ q, zs[j]? = some q := ⟨_, List.getElem?_eq_getElem hj⟩
      have hqx : q.1.x = x := by rw [List.getElem?_map, hq] at hx; exact Option.some.inj hx
      have hjm : j < (zs.map Prod.fst).length := by simpa using hj
      have hcells : (((zs.map Prod.fst).flatMap RawV.cells).drop (j * 4)).take 4 = q.1.cells := by
        apply List.ext_getElem?
        intro t
        by_cases ht : t < 4
        · rw [List.getElem?_take_of_lt ht, List.getElem?_drop, flat_at _ j hjm t ht, List.getElem_map]
          rw [List.getElem?_eq_getElem hj] at hq
          rw [Option.some.inj hq]
        · rw [List.getElem?_take_eq_none (by omega), List.getElem?_eq_none (by rw [cells_len]; omega)]
      rw [show kVer.sz = 4 from rfl, hcells, ← hqx]
      exact k34_mkM _ _ _ _ (Kd.R_mono (hR q (List.mem_of_getElem? hq)) (fun b hb => ⟨q, hq, hb⟩)))
  refine ⟨f, fun k hk => trivial, (zs.map Prod.fst).flatMap RawV.cells, ?_, hf⟩
  rwa [List.length_zipIdx, hlm]
/-- The cells of the i-th version of a row of one's own. -/
theorem own_ver {w : World} {base g n cap : Nat} {cs : List RawV} (h : w.ownsRow base tVer 4 (.slice (some ⟨g, 0, none⟩) n cap) n (cs.flatMap RawV.cells)) (i : Nat) (hi : i < cs.length) (r : RawV) (hr : cs[i]? = some r) :
    w.cell? ⟨g, i * 4, none⟩ = some (.int .u64 r.x.f0.f0) ∧ w.cell? ⟨g, i * 4 + 1, none⟩ = some (.int .u32 r.x.f0.f1) ∧ w.cell? ⟨g, i * 4 + 2, none⟩ = some (.slice r.A r.x.f1.length r.c) ∧ w.cell? ⟨g, i * 4 + 3, none⟩ = some (.int .u64 r.x.f2) := by
  have hk : ∀ j u, j < 4 → r.cells[j]? = some u → w.cell? ⟨g, i * 4 + j, none⟩ = some u := fun j u hj hu => by
    have h1 := h.cells (g := g) rfl (i * 4 + j) u (by
      rw [flat_at cs i hi j hj]
      rw [List.getElem?_eq_getElem hi] at hr
      rw [Option.some.inj hr]; exact hu)
    rwa [add_plain] at h1
  exact ⟨hk 0 _ (by omega) rfl, hk 1 _ (by omega) rfl, hk 2 _ (by omega) rfl, hk 3 _ (by omega) rfl⟩
theorem own_frz {w : World} {base g n cap sz : Nat} {e : TypeId} {cs : List Value} (h : w.ownsRow base e sz (.slice (some ⟨g, 0, none⟩) n cap) n cs) (j : Nat) : w.frozen? ⟨g, j, none⟩ = false := by
  obtain ⟨cur, hc⟩ := own_typed h g rfl
  exact blk_frozen hc j
theorem flat_len (cs : List RawV) : (cs.flatMap RawV.cells).length = cs.length * 4 := by
  induction cs with
  | nil => rfl
  | cons r cs ih => rw [List.flatMap_cons, List.length_append, ih, cells_len]; simp; omega
theorem flat_set4 (cs : List RawV) (i : Nat) (r : RawV) (h : i < cs.length) :
    ((((cs.flatMap RawV.cells).set (i * 4) (.int .u64 r.x.f0.f0)).set (i * 4 + 1) (.int .u32 r.x.f0.f1)).set (i * 4 + 2) (.slice r.A r.x.f1.length r.c)).set (i * 4 + 3) (.int .u64 r.x.f2) = (cs.set i r).flatMap RawV.cells := by
  induction cs generalizing i with
  | nil => simp at h
  | cons q cs ih =>
    cases i with
    | zero => simp [RawV.cells, List.flatMap_cons]
    | succ i =>
      have e : ∀ j, (i + 1) * 4 + j = (i * 4 + j) + 4 := fun j => by omega
      have e0 : (i + 1) * 4 = i * 4 + 4 := by omega
      rw [List.set_cons_succ, List.flatMap_cons, List.flatMap_cons, ← ih i (by simpa using h)]
      rw [e, e, e, e0]
      simp [RawV.cells]

/-- Where the first one stands that is said yes to; -1: none. -/
def idxI (pd : RawV → Bool) (rs : List RawV) : Int := match rs.findIdx? pd with | none => -1 | some i => i
theorem idxI_some {pd : RawV → Bool} {rs : List RawV} {i : Nat} (h : rs.findIdx? pd = some i) : idxI pd rs = i := by unfold idxI; rw [h]
theorem idxI_none {pd : RawV → Bool} {rs : List RawV} (h : rs.findIdx? pd = none) : idxI pd rs = -1 := by unfold idxI; rw [h]
theorem wrap_succ (k : Nat) (h : k < 9223372036854775807) : wrap64 ((k : Int) + 1) = k + 1 := by unfold wrap64; omega
theorem own_form {w : World} {base g n cap sz : Nat} {e : TypeId} {cs : List Value} (h : w.ownsRow base e sz (.slice (some ⟨g, 0, none⟩) n cap) n cs) : ∃ cur, w.heap[g]? = some (.cells cur e (0, 0)) ∧ n ≤ cap ∧ cap ≤ maxLen ∧ cur.size = cap * sz ∧ cur.toList.take (n * sz) = cs ∧ base ≤ g := by
  rcases h.2 with ⟨hv, _⟩ | ⟨g', cap', cur', hv, hb, hh, h1, h2, h3, h4⟩
  · cases hv
  · injection hv with e1 e2 e3
    injection e1 with e1
    injection e1 with e1
    subst e1; subst e3
    exact ⟨cur', hh, h1, h2, h3, h4, hb⟩
set_option maxHeartbeats 2000000 in
theorem indexFunc_any (g0 : Nat) (cb : Array Value) (base g cap : Nat) (rs : List RawV) (pd : RawV → Bool) (w : World) (eg : ∀ args w, (callFunc g0 args).run Try.prog w = .ok (.enter g0 args) w)
    (ho : w.ownsRow base tVer 4 (.slice (some ⟨g, 0, none⟩) rs.length cap) rs.length (rs.flatMap RawV.cells)) (hmax : rs.length ≤ 2932031007402)
    (hpd : ∀ W r, r ∈ rs → w.grownBy W (some g) → Calls Try.prog g0 (#[.agg #[.int .u64 r.x.f0.f0, .int .u32 r.x.f0.f1, .slice r.A r.x.f1.length r.c, .int .u64 r.x.f2]] ++ cb) W fun e w' => e = .returned (.bool (pd r)) ∧ W.grownBy w' none) :
    Calls Try.prog 42 #[.slice (some ⟨g, 0, none⟩) rs.length cap, .func (.func g0) #[] cb] w fun e w' => e = .returned (.int .i64 (idxI pd rs)) ∧ w.grownBy w' none := by
  have HD := Lib.hid hpd
  clear hpd
  have hlt0 : g < w.heap.size := own_lt ho g rfl
  go_enter Try.func42, Try.ntmps42
  go_wp2
  go_loopw [8] (fun i wr => ∃ k : Nat, k ≤ rs.length ∧ i = .int .i64 k ∧ w.grownBy wr none ∧ ∀ j r, j < k → rs[j]? = some r → pd r = false)
    (fun i _ => rs.length - (intOf i).toNat)
  case atStart => exact ⟨0, Nat.zero_le _, rfl, ⟨rfl, rfl, rfl, Nat.le_refl _, fun _ _ _ => rfl⟩, fun j r h => absurd h (by omega)⟩
  case round =>
    obtain ⟨k, hk, rfl, hg, hno⟩ := hrel
    by_cases hlt : k < rs.length
    · obtain ⟨r, hr⟩ : ∃ r, rs[k]? = some r := ⟨_, List.getElem?_eq_getElem hlt⟩
      obtain ⟨q0, q1, q2, q3⟩ := own_ver (own_move ho (w1 := wr) (fun j hj => hg.block j (own_lt ho j hj) (by simp))) k hlt r hr
      have wk : wrap64 ((k : Int) + 1) = k + 1 := by unfold wrap64; omega
      have hmem := List.mem_of_getElem? hr
      cases hp : pd r
      · go_wp2_with (first
          | (go_at_fn g0; refine (HD.out _ r hmem (hg.but _)).mono ?_; rintro e w2 ⟨he, hg2⟩; rw [hp] at he; subst he)
          | go_in)
        go_roundw
        case rel =>
          refine ⟨k + 1, by omega, by go_num, hg.andThen hg2 (fun j hj => by cases hj), fun j q hj hq => ?_⟩
          by_cases e : j = k
          · subst e; rw [hr] at hq; cases hq; exact hp
          · exact hno j q (by omega) hq
        case measure => simp [intOf]; omega
      · go_wp2_with (first
          | (go_at_fn g0; refine (HD.out _ r hmem (hg.but _)).mono ?_; rintro e w2 ⟨he, hg2⟩; rw [hp] at he; subst he)
          | go_in)
        go_ret
        have hix : rs.findIdx? pd = some k := by
          rw [List.findIdx?_eq_some_iff_getElem]
          refine ⟨hlt, ?_, fun j hj => ?_⟩
          · rw [List.getElem?_eq_getElem hlt] at hr; rw [Option.some.inj hr]; exact hp
          · have := hno j (rs[j]) hj (List.getElem?_eq_getElem (by omega)); simp [this]
        exact ⟨by first | rw [idxI_some hix]; rfl | rw [idxI_none hix]; rfl, hg.andThen hg2 (fun j hj => by cases hj)⟩
    · obtain rfl : k = rs.length := by omega
      go_wp2
      go_ret
      have hix : rs.findIdx? pd = none := by
        rw [List.findIdx?_eq_none_iff]
        intro r hr
        obtain ⟨j, hj, e⟩ := List.getElem_of_mem hr
        exact hno j r hj (by rw [List.getElem?_eq_getElem hj, e])
      exact ⟨by first | rw [idxI_some hix]; rfl | rw [idxI_none hix]; rfl, hg⟩

theorem own_set4 {W : World} {base g n cap : Nat} {cs : List RawV} (h : W.ownsRow base tVer 4 (.slice (some ⟨g, 0, none⟩) n cap) n (cs.flatMap RawV.cells)) (i : Nat) (hi : i < cs.length) (r : RawV) :
    ((((W.setCell ⟨g, i * 4, none⟩ (.int .u64 r.x.f0.f0)).setCell ⟨g, i * 4 + 1, none⟩ (.int .u32 r.x.f0.f1)).setCell ⟨g, i * 4 + 2, none⟩ (.slice r.A r.x.f1.length r.c)).setCell ⟨g, i * 4 + 3, none⟩ (.int .u64 r.x.f2)).ownsRow base tVer 4 (.slice (some ⟨g, 0, none⟩) n cap) n ((cs.set i r).flatMap RawV.cells) := by
  have hl := flat_len cs
  rw [← flat_set4 cs i r hi]
  exact own_set (own_set (own_set (own_set h (by omega) _) (by rw [List.length_set]; omega) _) (by rw [List.length_set, List.length_set]; omega) _) (by rw [List.length_set, List.length_set, List.length_set]; omega) _
theorem setCells_block : ∀ (vs : List Value) (w : World) (g o : Nat) (cur : Array Value) (e : TypeId), w.heap[g]? = some (.cells cur e (0, 0)) → ∃ cur', (w.setCells g o vs).heap[g]? = some (.cells cur' e (0, 0)) ∧ cur'.size = cur.size ∧ (∀ j, j < o → cur'[j]? = cur[j]?) ∧ w.grownBy (w.setCells g o vs) (some g)
  | [], w, g, o, cur, e, h => ⟨cur, h, rfl, fun _ _ => rfl, ⟨rfl, rfl, rfl, Nat.le_refl _, fun _ _ _ => rfl⟩⟩
  | v :: vs, w, g, o, cur, e, h => by
    obtain ⟨cur', h1, h2, h3, h4⟩ := setCells_block vs (w.setCell ⟨g, o, none⟩ v) g (o + 1) _ e (blk_set h o v)
    refine ⟨cur', h1, by rw [h2]; simp, fun j hj => ?_, ?_⟩
    · rw [h3 j (by omega)]
      rw [Array.getElem?_setIfInBounds]
      rw [if_neg (by omega)]
    · exact World.grownBy.andThen (b' := w.setCell ⟨g, o, none⟩ v) ⟨rfl, rfl, rfl, by simp, fun k hk hn => Below.heap_setCell _ _ _ _ (fun e => hn (by rw [e]))⟩ h4 (fun j hj => .inr hj)
theorem zeroCells_len (z : Value) (n : Nat) (hz : z.cells.size = 4) : (Builtin.zeroCells z.cells n).size = n * 4 := by
  simp [Builtin.zeroCells, hz]
theorem run_clear_ver (w : World) (g o n c : Nat) (hn : 0 < n) (hc : ∀ j, j < n * 4 → (w.cell? ⟨g, o + j, none⟩).isSome = true) (hf : ∀ j, j < n * 4 → w.frozen? ⟨g, o + j, none⟩ = false) :
    ∃ zs : List Value, ∀ ty, (Builtin.clear_ #[22] ty #[.slice (some ⟨g, o, none⟩) n c]).run Try.prog w = .ok (.tuple #[]) (w.setCells g o zs) := by
  refine ⟨(Builtin.zeroCells (Value.agg #[.int .u64 0, .int .u32 0, .slice none 0 0, .int .u64 0]).cells n).toList, fun ty => ?_⟩
  have hlen : (Builtin.zeroCells (Value.agg #[.int .u64 0, .int .u32 0, .slice none 0 0, .int .u64 0]).cells n).toList.length = n * 4 := by
    rw [Array.length_toList]; exact zeroCells_len _ n rfl
  have hone : ∀ v ∈ (Builtin.zeroCells (Value.agg #[.int .u64 0, .int .u32 0, .slice none 0 0, .int .u64 0]).cells n).toList, v.oneCell' = true := by
    intro v hv
    simp [Builtin.zeroCells, Value.cells] at hv
    obtain ⟨i, hi, rfl⟩ := hv
    have h4 : i % 4 = 0 ∨ i % 4 = 1 ∨ i % 4 = 2 ∨ i % 4 = 3 := by omega
    rcases h4 with h | h | h | h <;> rw [h] <;> rfl
  have hst := run_storeCells_cells (P := Try.prog) g o _ 0 w (by rw [hlen]; simpa using hc) (by rw [hlen]; simpa using hf) hone
  simp only [Nat.add_zero] at hst
  obtain ⟨m, rfl⟩ : ∃ m, n = m + 1 := ⟨n - 1, by omega⟩
  simp [Builtin.clear_, run_underlying Try.underlying22, zeroVer, hst]

theorem wpList_clear_ver {ops : Array Oper} {rest : List Oper} {o : Oper} {a : Act} {Q : Exit → Act → World → Prop} (w w' : World) (hg : o.guard = none) (m : Operand) (hop : o.op = Op.call { callee := Callee.builtin Builtin.clear, args := #[m], argTypes := #[22] }) (v : Value) (hm : a.eval m = v)
    (hrun : ∀ ty, (Builtin.clear_ #[22] ty #[v]).run Try.prog w = .ok (.tuple #[]) w') (hK : wpList Try.prog ops Q rest (a.put o.dst (.tuple #[])) w') : wpList Try.prog ops Q (o :: rest) a w := by
  refine wpList_plain hg fun K' hK' => ?_
  unfold Oper.wp
  simp [execOp, hop, resolve, invoke, builtin, hm, hrun, Result.andThen]
  exact hK' _ _ hK
theorem flat_take (cs : List RawV) (i : Nat) (h : i ≤ cs.length) : (cs.flatMap RawV.cells).take (i * 4) = (cs.take i).flatMap RawV.cells := by
  conv => lhs; rw [← List.take_append_drop i cs, List.flatMap_append]
  rw [List.take_left']
  rw [flat_len, List.length_take]
  omega
set_option maxHeartbeats 4000000 in
theorem deleteV_any (g0 : Nat) (cb : Array Value) (base g cap : Nat) (rs : List RawV) (pd : RawV → Bool) (w : World) (eg : ∀ args w, (callFunc g0 args).run Try.prog w = .ok (.enter g0 args) w)
    (ho : w.ownsRow base tVer 4 (.slice (some ⟨g, 0, none⟩) rs.length cap) rs.length (rs.flatMap RawV.cells)) (hmax : rs.length ≤ 2932031007402)
    (hpd : ∀ W r, r ∈ rs → w.grownBy W (some g) → Calls Try.prog g0 (#[.agg #[.int .u64 r.x.f0.f0, .int .u32 r.x.f0.f1, .slice r.A r.x.f1.length r.c, .int .u64 r.x.f2]] ++ cb) W fun e w' => e = .returned (.bool (pd r)) ∧ W.grownBy w' none) :
    Calls Try.prog 29 #[.slice (some ⟨g, 0, none⟩) rs.length cap, .func (.func g0) #[] cb] w fun e w' => e = .returned (.slice (some ⟨g, 0, none⟩) (rs.filter (fun r => !pd r)).length cap) ∧ w'.ownsRow base tVer 4 (.slice (some ⟨g, 0, none⟩) (rs.filter (fun r => !pd r)).length cap) (rs.filter (fun r => !pd r)).length ((rs.filter (fun r => !pd r)).flatMap RawV.cells) ∧ w.grownBy w' (some g) := by
  have hgw : g < w.heap.size := own_lt ho g rfl
  cases hix : rs.findIdx? pd with
  | none =>
    have hall : rs.filter (fun r => !pd r) = rs := by
      rw [List.filter_eq_self]
      intro r hr
      have := List.findIdx?_eq_none_iff.1 hix r hr
      simpa using this
    rw [hall]
    have hI := idxI_none hix
    go_enter Try.func29, Try.ntmps29
    go_wp2_with (first
      | (go_at_call 42; refine (indexFunc_any g0 cb base g cap rs pd _ eg ho hmax hpd).mono ?_; rintro e w1 ⟨he, hg1⟩; rw [hI] at he; subst he)
      | go_in)
    go_ret
    exact ⟨rfl, own_move ho (fun j hj => hg1.block j (own_lt ho j hj) (by simp)), hg1.but _⟩
  | some i0 =>
    have hI := idxI_some hix
    obtain ⟨hi0, hp0, hb0⟩ := List.findIdx?_eq_some_iff_getElem.1 hix
    have HD := Lib.hid hpd
    have hm1 : ((i0 : Int) == -1) = false := by
      rw [beq_eq_false_iff_ne]; omega
    have w0 := wrap_succ i0 (Nat.lt_of_lt_of_le hi0 (Nat.le_trans hmax (by decide)))
    go_enter Try.func29, Try.ntmps29
    go_wp2_with (first
      | (go_at_call 42; refine (indexFunc_any g0 cb base g cap rs pd _ eg ho hmax hpd).mono ?_; rintro e w1 ⟨he, hg1⟩; rw [hI] at he; subst he)
      | go_in)
    clear w0
    have ho1 := own_move ho (w1 := w1) (fun j hj => hg1.block j (own_lt ho j hj) (by simp))
    have hw1 := hg1.size
    have hstart : ((rs.take (i0 + 1)).filter (fun r => !pd r)) = rs.take i0 := by
      rw [List.take_succ_eq_append_getElem hi0, List.filter_append]
      have e1 : (rs.take i0).filter (fun r => !pd r) = rs.take i0 := by
        rw [List.filter_eq_self]
        intro r hr
        obtain ⟨j, hj, e⟩ := List.getElem_of_mem hr
        rw [List.getElem_take] at e
        have hj' : j < i0 := by rw [List.length_take] at hj; omega
        have := hb0 j hj'
        rw [e] at this
        simpa using this
      rw [e1]
      simp [hp0]
    go_loopw [5, 6] (fun vi vj wr => ∃ (i j : Nat) (cs : List RawV), i < j ∧ j ≤ rs.length ∧ vi = .int .i64 i ∧ vj = .int .i64 j ∧ cs.length = rs.length ∧ ((rs.take j).filter (fun r => !pd r)).length = i ∧ cs.take i = (rs.take j).filter (fun r => !pd r) ∧ (∀ t, j ≤ t → cs[t]? = rs[t]?) ∧
        wr.ownsRow base tVer 4 (.slice (some ⟨g, 0, none⟩) rs.length cap) rs.length (cs.flatMap RawV.cells) ∧ w.grownBy wr (some g))
      (fun _ vj _ => rs.length - (intOf vj).toNat)
    case atStart =>
      refine ⟨i0, i0 + 1, rs, by omega, by omega, rfl, by go_num, rfl, by rw [hstart, List.length_take]; omega, by rw [hstart], fun _ _ => rfl, ho1, hg1.but _⟩
    case round =>
      obtain ⟨i, j, cs, hij, hj, rfl, rfl, hcl, hln, htk, hdr, hown, hgw2⟩ := hrel
      by_cases hlt : j < rs.length
      · obtain ⟨r, hr⟩ : ∃ r, rs[j]? = some r := ⟨_, List.getElem?_eq_getElem hlt⟩
        have hrc : cs[j]? = some r := by rw [hdr j (Nat.le_refl _)]; exact hr
        obtain ⟨q0, q1, q2, q3⟩ := own_ver hown j (by omega) r hrc
        have hmem := List.mem_of_getElem? hr
        have hil : i < cs.length := by omega
        have hi63 : i < 9223372036854775807 := by omega
        have hj63 : j < 9223372036854775807 := by omega
        have hsz := hgw2.size
        have htj : rs.take (j + 1) = rs.take j ++ [r] := by
          rw [List.take_succ_eq_append_getElem hlt]
          rw [List.getElem?_eq_getElem hlt] at hr
          rw [Option.some.inj hr]
        cases hp : pd r
        · have hfj : (rs.take (j + 1)).filter (fun r => !pd r) = (rs.take j).filter (fun r => !pd r) ++ [r] := by
            rw [htj, List.filter_append]; simp [hp]
          obtain ⟨r', hr'⟩ : ∃ r', cs[i]? = some r' := ⟨_, List.getElem?_eq_getElem (by omega)⟩
          go_wp2_with (first
            | (go_at_fn g0; refine (HD.out _ r hmem (hgw2.andThen (grown_of_below (below_alloc (Below.refl _ _) _) none) (fun j hj => by cases hj))).mono ?_; rintro e w2 ⟨he, hg2⟩; rw [hp] at he; subst he; have hg12 : wr.grownBy w2 none := World.grownBy.andThen (grown_of_below (below_alloc (Below.refl _ _) _) none) hg2 (fun j hj => by cases hj); have hown2 := own_move hown (w1 := w2) (fun j hj => hg12.block j (own_lt hown j hj) (by simp)); obtain ⟨p0, p1, p2, p3⟩ := own_ver hown2 i hil r' hr'; have f0 := own_frz hown2 (i * 4); have f1 := own_frz hown2 (i * 4 + 1); have f2 := own_frz hown2 (i * 4 + 2); have f3 := own_frz hown2 (i * 4 + 3); have hbx := blk_grown (blk_new wr (.cells #[.int .u64 r.x.f0.f0, .int .u32 r.x.f0.f1, .slice r.A r.x.f1.length r.c, .int .u64 r.x.f2] tVer)) hg2 (by simp); have b0 := blk_cell hbx 0; have b1 := blk_cell hbx 1; have b2 := blk_cell hbx 2; have b3 := blk_cell hbx 3)
            | go_in)
          have hown3 := own_set4 hown2 i hil r
          have hg23 : w2.grownBy ((((w2.setCell ⟨g, i * 4, none⟩ (.int .u64 r.x.f0.f0)).setCell ⟨g, i * 4 + 1, none⟩ (.int .u32 r.x.f0.f1)).setCell ⟨g, i * 4 + 2, none⟩ (.slice r.A r.x.f1.length r.c)).setCell ⟨g, i * 4 + 3, none⟩ (.int .u64 r.x.f2)) (some g) :=
            ⟨rfl, rfl, rfl, by simp, fun k hk hn => by
              have hne : k ≠ g := fun e => hn (by rw [e])
              rw [Below.heap_setCell _ _ _ _ hne, Below.heap_setCell _ _ _ _ hne, Below.heap_setCell _ _ _ _ hne, Below.heap_setCell _ _ _ _ hne]⟩
          go_roundw
          case rel =>
            refine ⟨i + 1, j + 1, cs.set i r, by omega, by omega, by go_num, by go_num, by rw [List.length_set]; exact hcl, by rw [hfj, List.length_append, hln]; rfl, ?_, fun t ht => ?_, hown3, (hgw2.andThen hg12 (fun j hj => by cases hj)).andThen hg23 (fun j hj => by cases hj; exact Or.inr rfl)⟩
            · rw [hfj, ← htk, List.take_add_one, List.getElem?_set_self (by omega), List.take_set_of_le (Nat.le_refl _)]
              rfl
            · rw [List.getElem?_set_ne (by omega)]; exact hdr t (by omega)
          case measure => simp [intOf]; omega
        · have hfj : (rs.take (j + 1)).filter (fun r => !pd r) = (rs.take j).filter (fun r => !pd r) := by
            rw [htj, List.filter_append]; simp [hp]
          go_wp2_with (first
            | (go_at_fn g0; refine (HD.out _ r hmem (hgw2.andThen (grown_of_below (below_alloc (Below.refl _ _) _) none) (fun j hj => by cases hj))).mono ?_; rintro e w2 ⟨he, hg2⟩; rw [hp] at he; subst he; have hg12 : wr.grownBy w2 none := World.grownBy.andThen (grown_of_below (below_alloc (Below.refl _ _) _) none) hg2 (fun j hj => by cases hj))
            | go_in)
          go_roundw
          case rel =>
            exact ⟨i, j + 1, cs, by omega, by omega, rfl, by go_num, hcl, by rw [hfj]; exact hln, by rw [hfj]; exact htk, fun t ht => hdr t (by omega), own_move hown (fun j hj => hg12.block j (own_lt hown j hj) (by simp)), hgw2.andThen hg12 (fun j hj => by cases hj)⟩
          case measure => simp [intOf]; omega
      · obtain rfl : j = rs.length := by omega
        rw [List.take_length] at hln htk
        obtain ⟨cur, hcur, hcap, hcap2, hcs, htc, hbg⟩ := own_form hown
        obtain ⟨zs, hzs⟩ : ∃ zs : List Value, ∀ ty, (Builtin.clear_ #[22] ty #[.slice (some ⟨g, i * 4, none⟩) (rs.length - i) (cap - i)]).run Try.prog wr = .ok (.tuple #[]) (wr.setCells g (i * 4) zs) :=
          run_clear_ver wr g (i * 4) (rs.length - i) (cap - i) (by omega) (fun t ht => by rw [blk_cell hcur]; simp; omega) (fun t ht => blk_frozen hcur _)
        obtain ⟨cur', hc1, hc2, hc3, hc4⟩ := setCells_block zs wr g (i * 4) cur tVer hcur
        go_wp2_with (first
          | (refine wpList_clear_ver _ _ rfl _ rfl _ rfl hzs ?_)
          | go_in)
        go_ret
        refine ⟨by rw [hln]; rfl, ?_, hgw2.andThen hc4 (fun j hj => by cases hj; exact Or.inr rfl)⟩
        rw [hln]
        refine ⟨by rw [flat_len, hln], .inr ⟨g, cap, cur', rfl, hbg, hc1, by omega, hcap2, by rw [hc2]; exact hcs, ?_⟩⟩
        rw [← htk]
        have e1 : cur'.toList.take (i * 4) = cur.toList.take (i * 4) := by
          apply List.ext_getElem?
          intro t
          by_cases ht : t < i * 4
          · rw [List.getElem?_take_of_lt ht, List.getElem?_take_of_lt ht, Array.getElem?_toList, Array.getElem?_toList, hc3 t ht]
          · rw [List.getElem?_take_eq_none (by omega), List.getElem?_take_eq_none (by omega)]
        have e2 : cur.toList.take (i * 4) = (cs.flatMap RawV.cells).take (i * 4) := by
          rw [← htc, List.take_take]; congr 1; omega
        rw [e1, e2]
        exact flat_take cs i (by omega)
end Go.Proofs.Ytfepfpcilmaojaa.QV
