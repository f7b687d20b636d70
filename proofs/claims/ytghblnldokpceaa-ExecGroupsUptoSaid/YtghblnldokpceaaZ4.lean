/- The parts GrpW1, GrpW2, GrpF, AliveX, GrpR, LGroups of this proof, one behind the other. -/
import Derived.Test.YtghblnldokpceaaZ3
import Derived.Deep.CutRange
/- exec.Group: what its iterator gives (a key at least). -/
namespace Go.Proofs.Ytghblnldokpceaa.QV
open Go.RowKit Go.Proofs.YtghblnldokpceaaW.PrintWords Go.Proofs.Ytghblnldokpceaa.Seq Go.Shelf Go.Proofs.Ytghblnldokpceaa.Op Go.Proofs.Ytghblnldokpceaa.Stab
set_option linter.unusedVariables false
set_option linter.unusedSimpArgs false
attribute [local go_sem] Oper.semAt_some

def gp (g : GE) : Grp := (g.key, g.rows)
theorem rise_of {by' : List Int} {pre : List Row} {G : List GE} (h : G.map gp = groupsL by' pre) : RiseG G := by
  have h1 := (groupsL_inv by' pre).rise
  rw [← h, List.map_map] at h1
  unfold RiseK at h1
  rw [List.pairwise_map] at h1
  exact h1
theorem gp_getD (G : List GE) (i : Nat) : (G.map gp).getD i ([], []) = gp (G.getD i zGE) := by
  rw [List.getD_eq_getElem?_getD, List.getD_eq_getElem?_getD, List.getElem?_map]
  cases G[i]? <;> rfl
theorem found_map {G : List GE} {P x : Row} {i : Nat} {g' : GE} (hi : i ≤ G.length) (hlo : ∀ y ∈ G.take i, ordK y.key P < 0) (hhi : ∀ y ∈ G.drop i, 0 ≤ ordK y.key P) (hf : i < G.length ∧ ordK (G.getD i zGE).key P = 0) (hk : g'.key = (G.getD i zGE).key) (hr : g'.rows = (G.getD i zGE).rows ++ [x]) :
    (G.set i g').map gp = addG (G.map gp) P x := by
  rw [addG_at (G.map gp) P x i (by simpa using hi) (fun y hy => ?_) (fun y hy => ?_), gp_getD, if_pos ⟨by simpa using hf.1, hf.2⟩]
  · rw [List.map_set, List.set_eq_take_append_cons_drop, if_pos (by simpa using hf.1)]
    simp [gp, hk, hr]
  · rw [← List.map_take] at hy
    obtain ⟨z, hz, rfl⟩ := List.mem_map.1 hy
    exact hlo z hz
  · rw [← List.map_drop] at hy
    obtain ⟨z, hz, rfl⟩ := List.mem_map.1 hy
    exact hhi z hz
theorem fresh_map {G : List GE} {P x : Row} {i : Nat} {g0 g' : GE} (hi : i ≤ G.length) (hlo : ∀ y ∈ G.take i, ordK y.key P < 0) (hhi : ∀ y ∈ G.drop i, 0 ≤ ordK y.key P) (hf : ¬ (i < G.length ∧ ordK (G.getD i zGE).key P = 0)) (hk : g'.key = P) (hr : g'.rows = [x]) :
    ((G.take i ++ g0 :: G.drop i).set i g').map gp = addG (G.map gp) P x := by
  rw [addG_at (G.map gp) P x i (by simpa using hi) (fun y hy => ?_) (fun y hy => ?_), gp_getD, if_neg (fun h => hf ⟨by simpa using h.1, h.2⟩)]
  · have hl : (G.take i).length = i := by rw [List.length_take]; omega
    have e : (G.take i ++ g0 :: G.drop i).set i g' = G.take i ++ g' :: G.drop i := by
      rw [List.set_append_right _ _ (by omega), hl, Nat.sub_self]; rfl
    rw [e, List.map_append, List.map_cons, List.map_take, List.map_drop]
    simp [gp, hk, hr]
  · rw [← List.map_take] at hy
    obtain ⟨z, hz, rfl⟩ := List.mem_map.1 hy
    exact hlo z hz
  · rw [← List.map_drop] at hy
    obtain ⟨z, hz, rfl⟩ := List.mem_map.1 hy
    exact hhi z hz
/-- Between two rounds of the first loop. -/
def GrpJ (W : World) (by' : List Int) (pre : List Row) (M : Nat → Prop) (A : World) : Prop := ∃ (G : List GE) (gv : Value) (o : Nat → Nat), GSt W.heap.size G gv o M A ∧ G.map gp = groupsL by' pre ∧ Below W.heap.size W A
theorem GrpJ.kept {W : World} {by' : List Int} {pre : List Row} {M : Nat → Prop} {A B : World} {q : Nat → Prop} (h : GrpJ W by' pre M A) (hq : ∀ i, q i → W.heap.size ≤ i) (hk : Kpt (fun i => q i ∧ ¬ M i) A B) : GrpJ W by' pre M B := by
  obtain ⟨G, gv, o, h1, h2, h3⟩ := h
  exact ⟨G, gv, o, h1.kept hk.size (fun k hM => hk.block k (h1.mlt k hM).2 (fun h => h.2 hM)), h2, h3.trans (hk.below h3.size (fun i _ h => hq i h.1))⟩
theorem rowOut_snoc (k : Row) (rows : List Row) (aggs : List Ag) (j : Nat) (hj : j < aggs.length) : k ++ (aggs.take (j + 1)).map (fun a => toldS a rows) = (k ++ (aggs.take j).map (fun a => toldS a rows)) ++ [toldS (aggs.getD j z48) rows] := by
  rw [← take_snoc' z48 aggs j hj]; simp
theorem groupL_take (by' : List Int) (aggs : List Ag) (xs : List Row) (G : List GE) (h : G.map gp = groupsL by' xs) (k : Nat) (hk : k < G.length) : (groupL by' aggs xs).take (k + 1) = (groupL by' aggs xs).take k ++ [(G.getD k zGE).key ++ aggs.map (fun a => toldS a (G.getD k zGE).rows)] := by
  have hl : (groupL by' aggs xs).length = G.length := by unfold groupL; rw [← h]; simp
  rw [← take_snoc' [] (groupL by' aggs xs) k (by omega)]
  congr 2
  unfold groupL
  rw [← h, List.getD_eq_getElem?_getD, List.getElem?_map, List.getElem?_map, List.getD_eq_getElem?_getD, List.getElem?_eq_getElem hk]
  rfl

set_option maxRecDepth 100000 in
set_option maxHeartbeats 8000000 in
theorem group_seq_cons (by' : List Int) (aggs : List Ag) (xs : List Row) (sv : Value) (b1 b2 b3 : Nat) (bA : Option Addr) (bc : Nat) (gA : Option Addr) (gc : Nat) (w : World) (hR : IsSeq w sv xs)
    (h1 : w.cell? ⟨b1, 0, none⟩ = some (.slice bA by'.length bc)) (h2 : w.cell? ⟨b2, 0, none⟩ = some sv) (h3 : w.cell? ⟨b3, 0, none⟩ = some (.slice gA aggs.length gc))
    (hby : kI.C w bA by'.length by') (hbc : by'.length ≤ bc) (hag : kA.C w gA aggs.length aggs) (hgc : aggs.length ≤ gc)
    (hb : ∀ x ∈ xs, x.length ≤ 1048576) (hn : xs.length ≤ 1048576) (hb1 : by'.length ≤ 1048576) (hb2 : aggs.length ≤ 1048576) (hcase : by' ≠ []) :
    SeqOf Try.prog 39 #[.pointer (some ⟨b1, 0, none⟩), .pointer (some ⟨b2, 0, none⟩), .pointer (some ⟨b3, 0, none⟩)] (RdNew w) (groupL by' aggs xs) w := by
  intro l J Jx W Mc hW hMc hJ hJx hY h0
  have hcons : Cons Try.prog w W l J Jx Mc (groupL by' aggs xs) := ⟨hW, hMc, hJ, hJx, hY⟩
  have hzw : w.heap.size ≤ W.heap.size := hW.size
  have hMcW : ∀ i, Mc i → i < W.heap.size := fun i h => (hMc i h).2
  obtain ⟨gR, lbR, RdR, rfl, egR, hsR, hkR, hrR⟩ := hR
  refine (callsIn_wide (n := 0)).1 (callsIn_of_wp_marks Try.func39 rfl trivial ?_ rfl)
  simp only [Try.ntmps39, List.size_toArray, List.length_cons, List.length_nil, Nat.reduceAdd, Nat.reduceSub, Array.replicate_succ, Array.replicate_zero, List.push_toArray, List.append_toArray, List.nil_append, List.cons_append]
  have hbWa : Below W.heap.size W (W.alloc (.cells #[.slice none 0 0] 63)) := below_alloc (Below.refl _ _) _
  have d1 : (W.alloc (.cells #[.slice none 0 0] 63)).cell? ⟨b1, 0, none⟩ = some (.slice bA by'.length bc) := pw_cell_below (hW.trans (hbWa.mono hzw)) h1
  have hlz : ¬ ((by'.length : Int) = 0) := by
    cases by' with
    | nil => exact absurd rfl hcase
    | cons a l => simp only [List.length_cons]; omega
  have hlb : ((by'.length : Int) == 0) = false := by simpa using hlz
  have d2 : (W.alloc (.cells #[.slice none 0 0] 63)).cell? ⟨b2, 0, none⟩ = some (.func (.func gR) #[] lbR) := pw_cell_below (hW.trans (hbWa.mono hzw)) h2
  gi_wp2

  obtain ⟨W1, hW1⟩ : ∃ W1, W.alloc (.cells #[.slice none 0 0] 63) = W1 := ⟨_, rfl⟩
  have hbW1 : Below W.heap.size W W1 := by rw [← hW1]; exact hbWa
  have hszW1 : W1.heap.size = W.heap.size + 1 := by rw [← hW1]; simp
  have hx5 : W1.heap[W.heap.size]? = some (.cells #[.slice none 0 0] 63 (0, 0)) := by rw [← hW1]; exact blk_new _ _
  rw [hW1]
  clear hW1 d1 d2
  obtain ⟨G0, gv0, o0, M0, hG0, hmap0, hM0⟩ : ∃ (G0 : List GE) (gv0 : Value) (o0 : Nat → Nat) (M0 : Nat → Prop), GSt W.heap.size G0 gv0 o0 M0 W1 ∧ G0.map gp = groupsL by' [] ∧ (∀ i, M0 i → W.heap.size ≤ i ∧ i < W1.heap.size) := by
    refine ⟨[], .slice none 0 0, fun i => 0, fun i => i = W.heap.size, ⟨hx5, rfl, rfl, ⟨⟨rfl, .inl ⟨rfl, rfl⟩⟩, by simp⟩, fun k hk => by simp [Value.ownBlock] at hk, by simp, by simp, by simp, by simp, fun k hk => by omega⟩, by simp [groupsL, startG, hcase], fun k hk => by omega⟩
  refine wpIn_range (gf := gR) (lb := lbR) rfl egR hsR (hW.trans (hbW1.mono hzw)) (fun A N x vs h => by obtain ⟨Ad, c, rfl, _⟩ := hrR _ _ _ _ h; rfl) hkR
    (GrpJ W by') (fun _ _ _ _ => False) (fun pre M A B h hk => h.kept (fun i h => by omega) hk) (fun _ _ _ _ _ h _ => h)
    M0 ?hM ?h0 (fun x vs a₁ M A => ∃ v, vs = #[v] ∧ a₁ = { tmps := #[.func (.yield l) #[] #[], .pointer (some ⟨b1, 0, none⟩), .pointer (some ⟨b2, 0, none⟩), .pointer (some ⟨b3, 0, none⟩), undef, .pointer (some ⟨W.heap.size, 0, none⟩), v, undef, undef, undef, undef, undef, undef, undef, undef, .slice bA by'.length bc, .int .i64 by'.length, .bool false, undef, undef, undef, undef, .func (.func gR) #[] lbR, v] ++ Array.replicate 57 undef, defers := [] })
    (fun _ _ _ _ _ _ h _ => h) ?assign ?body ?done ?stop
  case hM => exact fun i hi => ⟨Nat.le_trans hzw (hM0 i hi).1, (hM0 i hi).2⟩
  case h0 => exact ⟨G0, gv0, o0, hG0, hmap0, hbW1⟩
  case stop =>
    intro D c pre W M' hpre h
    exact h.elim
  case assign =>
    intro l2 pre x vs N A M hI hpre hrd hM hN
    obtain ⟨Ad, c, rfl, hle, hC⟩ := hrR _ _ _ _ hrd
    gi_wp2
    refine ⟨M, fun i hi => ⟨.inl hi, (hM i hi).2⟩, Kpt.refl _ _, hI, _, rfl, ?_⟩
    simp only [List.size_toArray, List.length_cons, List.length_nil, Nat.reduceAdd, Nat.reduceSub, Array.replicate_succ, Array.replicate_zero, List.push_toArray, List.append_toArray, List.nil_append, List.cons_append]
  case body =>
    intro l2 pre x vs N A M a₁ hI hpre hrd hax hM hN
    obtain ⟨v, rfl, rfl⟩ := hax
    simp only [List.size_toArray, List.length_cons, List.length_nil, Nat.reduceAdd, Nat.reduceSub, Array.replicate_succ, Array.replicate_zero, List.push_toArray, List.append_toArray, List.nil_append, List.cons_append]
    obtain ⟨G, gv, o, hG, hmap, hBW⟩ := hI
    obtain ⟨Ad, c, hvv, hle, hC⟩ := hrR _ _ _ _ hrd
    obtain rfl : v = .slice Ad x.length c := by simpa using hvv
    clear hvv
    have hx1 := hb x (hpre.subset (by simp))
    have hlen : pre.length + 1 ≤ xs.length := by have := hpre.length_le; simpa using this
    have hglen : ∀ g ∈ G, g.rows.length ≤ pre.length := fun g hg => by
      have h := (groupsL_inv by' pre).mine (gp g) (by rw [← hmap]; exact List.mem_map_of_mem hg)
      have h' : g.rows = pre.filter (mineB by' g.key) := h
      rw [h']; exact List.length_filter_le _ _
    have hGl : G.length ≤ pre.length + 1 := by have := groupsL_len by' pre; rw [← hmap, List.length_map] at this; exact this
    have hrise := rise_of hmap
    obtain ⟨GAd, gcap, rfl, hgcap⟩ := hG.slice
    have hbA : Below w.heap.size w A := hW.trans (hBW.mono hzw)
    have d1 : A.cell? ⟨b1, 0, none⟩ = some (.slice bA by'.length bc) := pw_cell_below hbA h1
    obtain ⟨kp, hkp⟩ := picked_f x by' (by omega)
    have hsn := groupsL_snoc by' pre x
    obtain ⟨P, hP⟩ : ∃ P, pickS x by' = P := ⟨_, rfl⟩
    rw [hP] at hkp hsn
    have HSN := Lib.hid hsn
    have HMAP := Lib.hid hmap
    clear hsn hP hmap
    obtain ⟨nG, hnG⟩ : ∃ nG, G.length = nG := ⟨_, rfl⟩
    have HNG := Lib.hid hnG
    rw [hnG] at hGl hgcap hG
    gi_wp2
    refine ⟨trivial, rfl, calls_in _ _ ((exec_picked.calls kp Ad c x bA bc by' P A hC hle (Kd.C_below hby hbA) hbc hkp).mono ?_)⟩
    rintro e W2 ⟨vk, rfl, hk, hb2⟩
    obtain ⟨KB, kc, rfl, hkle, hkC⟩ := Kd.R_reads hk
    have hG2 := hG.below hb2
    have e5 : W2.cell? ⟨W.heap.size, 0, none⟩ = some (.slice GAd nG gcap) := blk_cell hG2.box 0
    gi_wp2
    have hsr := searchG_any GAd G gcap P KB kc W2 (hG2.cells rfl) hG2.keyOk hkC hkle hrise (by omega)
    rw [hnG] at hsr
    clear hnG
    refine ⟨trivial, rfl, calls_in _ _ (hsr.mono ?_)⟩
    rintro e W3 ⟨i, b, rfl, hi, hlo, hhi, hbq, hb3⟩
    rw [HNG.out] at hi
    clear hsr
    have HLH := Lib.hid (And.intro hlo hhi)
    clear hlo hhi
    have hb3A : Below A.heap.size A W3 := hb2.trans (hb3.mono hb2.size)
    have hG3 := hG2.below hb3
    cases b with
    | true =>
      have hf : i < G.length ∧ ordK (G.getD i zGE).key P = 0 := of_decide_eq_true hbq.symm
      have hin : i < nG := by rw [← HNG.out]; exact hf.1
      have HF := Lib.hid hf
      clear hf hbq
      obtain ⟨ad, had⟩ : ∃ ad, GAd = some ad := by
        obtain ⟨ad, e, _⟩ := (hG3.cells rfl) i HF.out.1
        exact ⟨ad, e⟩
      subst had
      obtain ⟨n1, c1, G1, o1, M1, A1, hA1, hnn, hcc, hG1, hG1N, hglen1, hM1, hKA1, hC1, hset⟩ : ∃ (n1 c1 : Nat) (G1 : List GE) (o1 : Nat → Nat) (M1 : Nat → Prop) (A1 : World), A1 = W3 ∧ n1 = nG ∧ c1 = gcap ∧ GSt W.heap.size G1 (.slice (some ad) n1 c1) o1 M1 A1 ∧ G1.length = n1 ∧ (∀ g ∈ G1, g.rows.length ≤ pre.length) ∧ (∀ j, M1 j → M j ∨ A.heap.size ≤ j) ∧ Kpt M A A1 ∧ kS.C A1 Ad x.length x ∧
          (∀ g' : GE, g'.key = (G1.getD i zGE).key → g'.rows = (G1.getD i zGE).rows ++ [x] → (G1.set i g').map gp = addG (G.map gp) P x) :=
        ⟨_, _, G, o, M, W3, rfl, rfl, rfl, hG3, HNG.out, hglen, fun j h => .inl h, Kpt.of_new M hb3A, Kd.C_below hC hb3A, fun g' hk hr => found_map (by rw [HNG.out]; exact hi) HLH.out.1 HLH.out.2 HF.out hk hr⟩
      subst hA1 hnn hcc
      have HG1N := Lib.hid hG1N
      clear hG1N
      gi_wp2
      clear hG2 hG3 hglen hrise HLH HF HNG e5 d1 hk hkC
      have hi1z : (i : Int) < (n1 : Int) := by omega
      have hbase1 : W.heap.size ≤ A1.heap.size := Nat.le_of_lt (hG1.mlt _ hG1.mb).2
      obtain ⟨gb, gc1, gcur, hgvf, hgc1, hgbk, _, _⟩ := hG1.form (by rw [HG1N.out]; omega)
      injection hgvf with hgad hgn hgcc
      injection hgad with hgad
      obtain ⟨ad', had', k0, k1⟩ := (hG1.cells rfl) i (by rw [HG1N.out]; omega)
      injection had' with had'
      subst had'
      obtain ⟨g, hgd⟩ : ∃ g, G1.getD i zGE = g := ⟨_, rfl⟩
      have hgm : g ∈ G1 := by rw [← hgd]; exact getD_mem _ (by rw [HG1N.out]; omega)
      rw [hgd] at k0 k1
      have hRg := hG1.rows g hgm
      have htg := hG1.tag3 g hgm
      have hgl : g.rows.length ≤ pre.length := hglen1 g hgm
      have HGD := Lib.hid hgd
      have HFM := Lib.hid (And.intro hgad (And.intro hgn hgcc))
      clear hgd hgad hgn hgcc hgm
      obtain ⟨gkey, grows, gka, gkc, gra, grc, gtag⟩ := g
      simp only [GE.raw] at k0 k1 hRg hgl htg
      have HRG := Lib.hid hRg
      clear hRg
      have S0 : ∀ V : World, Below A1.heap.size A1 V → V.cell? ⟨W.heap.size, 0, none⟩ = some (.slice (some ad) n1 c1) ∧ V.cell? ⟨(ad.add (i * 2)).block, (ad.add (i * 2)).off + 1, none⟩ = some (.slice gra grows.length grc) ∧ V.frozen? ⟨(ad.add (i * 2)).block, (ad.add (i * 2)).off + 1, none⟩ = false :=
        fun V hV => ⟨blk_cell (blk_below hG1.box hV) 0, pw_cell_below hV k1, by
          have := blk_frozen (blk_below hgbk hV) (i * 2 + 1)
          rw [HFM.out.1, add_plain]; exact this⟩
      refine wpIn_region_R 13 (S := fun V => V.cell? ⟨W.heap.size, 0, none⟩ = some (.slice (some ad) n1 c1) ∧ V.cell? ⟨(ad.add (i * 2)).block, (ad.add (i * 2)).off + 1, none⟩ = some (.slice gra grows.length grc) ∧ V.frozen? ⟨(ad.add (i * 2)).block, (ad.add (i * 2)).off + 1, none⟩ = false) (by kernel_rfl) (S0 _ (below_drew (Below.refl _ _))) (fun hS0 => ?_)
      refine wpAnyR_take (i := 0) (oi := ⟨some 41, _, _, _, _, _⟩) (v := ?_) (by kernel_rfl) (by kernel_rfl) rfl (by kernel_rfl) (by kernel_rfl) (by kernel_rfl) (fun _ _ _ h => h) (Or.inl ⟨by rfl, ?_⟩) (by assumption) ?_
      rotate_left
      · intro w hSw; (try dsimp only at hSw); (try go_split_ands); go_simp; (try (with_reducible rfl))
      (try simp only [Act.put, List.setIfInBounds_toArray, List.set_cons_zero, List.set_cons_succ])
      refine wpAnyR_take (i := 1) (oi := ⟨some 42, _, _, _, _, _⟩) (v := ?_) (by kernel_rfl) (by kernel_rfl) rfl (by kernel_rfl) (by kernel_rfl) (by kernel_rfl) (fun _ _ _ h => h) (Or.inl ⟨by rfl, ?_⟩) (by assumption) ?_
      rotate_left
      · intro w hSw; (try dsimp only at hSw); (try go_split_ands); go_simp; (try (with_reducible rfl))
      (try simp only [Act.put, List.setIfInBounds_toArray, List.set_cons_zero, List.set_cons_succ])
      refine wpAnyR_take (i := 2) (oi := ⟨some 43, _, _, _, _, _⟩) (v := ?_) (by kernel_rfl) (by kernel_rfl) rfl (by kernel_rfl) (by kernel_rfl) (by kernel_rfl) (fun _ _ _ h => h) (Or.inl ⟨by rfl, ?_⟩) (by assumption) ?_
      rotate_left
      · intro w hSw; (try dsimp only at hSw); (try go_split_ands); go_simp; (try (with_reducible rfl))
      (try simp only [Act.put, List.setIfInBounds_toArray, List.set_cons_zero, List.set_cons_succ])
      refine wpAnyR_take (i := 3) (oi := ⟨some 44, _, _, _, _, _⟩) (v := ?_) (by kernel_rfl) (by kernel_rfl) rfl (by kernel_rfl) (by kernel_rfl) (by kernel_rfl) (fun _ _ _ h => h) (Or.inl ⟨by rfl, ?_⟩) (by assumption) ?_
      rotate_left
      · intro w hSw; (try dsimp only at hSw); (try go_split_ands); go_simp; (try (with_reducible rfl))
      (try simp only [Act.put, List.setIfInBounds_toArray, List.set_cons_zero, List.set_cons_succ])
      refine wpAnyR_take (i := 4) (oi := ⟨some 45, _, _, _, _, _⟩) (v := ?_) (by kernel_rfl) (by kernel_rfl) rfl (by kernel_rfl) (by kernel_rfl) (by kernel_rfl) (fun _ _ _ h => h) (Or.inl ⟨by rfl, ?_⟩) (by assumption) ?_
      rotate_left
      · intro w hSw; (try dsimp only at hSw); (try go_split_ands); go_simp; (try (with_reducible rfl))
      (try simp only [Act.put, List.setIfInBounds_toArray, List.set_cons_zero, List.set_cons_succ])
      refine wpAnyR_take (i := 5) (oi := ⟨some 46, _, _, _, _, _⟩) (v := ?_) (by kernel_rfl) (by kernel_rfl) rfl (by kernel_rfl) (by kernel_rfl) (by kernel_rfl) (fun _ _ _ h => h) (Or.inl ⟨by rfl, ?_⟩) (by assumption) ?_
      rotate_left
      · intro w hSw; (try dsimp only at hSw); (try go_split_ands); go_simp; (try (with_reducible rfl))
      (try simp only [Act.put, List.setIfInBounds_toArray, List.set_cons_zero, List.set_cons_succ])
      refine wpAnyR_take (i := 6) (oi := ⟨some 47, _, _, _, _, _⟩) (v := ?_) (by kernel_rfl) (by kernel_rfl) rfl (by kernel_rfl) (by kernel_rfl) (by kernel_rfl) (fun _ _ _ h => h) (Or.inl ⟨by rfl, ?_⟩) (by assumption) ?_
      rotate_left
      · intro w hSw; (try dsimp only at hSw); (try go_split_ands); go_simp; (try (with_reducible rfl))
      (try simp only [Act.put, List.setIfInBounds_toArray, List.set_cons_zero, List.set_cons_succ])
      refine wpAnyR_take (i := 7) (oi := ⟨some 48, _, _, _, _, _⟩) (v := ?_) (by kernel_rfl) (by kernel_rfl) rfl (by kernel_rfl) (by kernel_rfl) (by kernel_rfl) (fun _ _ _ h => h) (Or.inl ⟨by rfl, ?_⟩) (by assumption) ?_
      rotate_left
      · intro w hSw; (try dsimp only at hSw); (try go_split_ands); go_simp; (try (with_reducible rfl))
      (try simp only [Act.put, List.setIfInBounds_toArray, List.set_cons_zero, List.set_cons_succ])
      refine wpAnyR_one (i := 8) (o := ⟨some 49, _, _, _, _, _⟩) (by kernel_rfl) (by kernel_rfl) rfl (fun K hK => ?_)
      go_simp
      refine (clone_any Ad x c A1.drew (Kd.C_drew hC1) hle (by omega)).mono ?_
      rintro e W4 ⟨v1, rfl, hR1, hb4⟩
      have hb4A : Below A1.heap.size A1 W4 := (below_drew (Below.refl _ A1)).trans hb4
      (try dsimp only)
      refine hK.out _ _ (.inr (S0 _ hb4A)) ?_
      clear hK K
      (try simp only [Act.put, List.setIfInBounds_toArray, List.set_cons_zero, List.set_cons_succ])
      obtain ⟨X1, x1c, rfl, hle1, hCx1⟩ := Kd.R_reads hR1
      refine wpAnyR_one (i := 9) (o := ⟨some 50, _, _, _, _, _⟩) (by kernel_rfl) (by kernel_rfl) rfl (fun K hK => ?_)
      go_simp
      refine hK.out _ _ (.inr (S0 _ (below_alloc hb4A _))) ?_
      clear hK K
      (try simp only [Act.put, List.setIfInBounds_toArray, List.set_cons_zero, List.set_cons_succ])
      refine wpAnyR_one (i := 10) (o := ⟨some 51, _, _, _, _, _⟩) (by kernel_rfl) (by kernel_rfl) rfl (fun K hK => ?_)
      have hzA4 : A1.heap.size ≤ W4.heap.size := hb4A.size
      refine Kd.R_append_step kRows (w0 := A1) W.heap.size (by rfl) (.tmp 47) (.tmp 50) 22 31 _ 24 rfl Try.underlying22 infoRow rfl (by decide) (by decide) (.slice gra grows.length grc) grows x [.slice X1 x.length x1c]
        (fun k => (M1 k ∧ o1 k = gtag) ∨ A1.heap.size ≤ k) (fun k => (Value.slice X1 x.length x1c).ownBlock = some k) rfl rfl ⟨_, rfl, RS_ok (Kd.R_lower hR1 (by show W.heap.size ≤ A1.heap.size; omega)) (fun _ h => h)⟩ ?_ (fun k hk => .inr (by omega)) ?_ (hb4A.mono (by omega)) (by omega) (by omega) ?_
      · intro k hk
        have := Kd.R_base hR1 k hk
        exact ⟨.inr this, fun e => by have h2 := Kd.R_lt HRG.out k e.symm; exact absurd this (by show ¬ A1.heap.size ≤ k; omega)⟩
      · exact Kd.R_mono (Kd.R_below HRG.out hb4A) (fun k hk => .inl hk)
      intro v2 W5 hS2 hB2 hg2 hat2
      obtain ⟨g2, cap2, rfl, hg2b, hg2l, cells2, hcells2⟩ := Kd.R_form hS2 (by simp)
      have hown : ∀ j, (Value.slice gra grows.length grc).ownBlock = some j → M1 j ∧ o1 j = gtag := HRG.out.1
      have hbx5 := blk_grown (blk_below hG1.box hb4A) hg2 (fun e => by have h3 := (hown W.heap.size e.symm).2; have h5 := hG1.ob; omega)
      have hgb5 := blk_grown (blk_below hgbk hb4A) hg2 (fun e => by have h3 := (hown gb e.symm).2; have h5 := (hG1.gown gb (by rw [HFM.out.1]; rfl)).2; omega)
      have hS05 : W5.cell? ⟨W.heap.size, 0, none⟩ = some (.slice (some ad) n1 c1) ∧ W5.cell? ⟨(ad.add (i * 2)).block, (ad.add (i * 2)).off + 1, none⟩ = some (.slice gra grows.length grc) ∧ W5.frozen? ⟨(ad.add (i * 2)).block, (ad.add (i * 2)).off + 1, none⟩ = false :=
        ⟨blk_cell hbx5 0, by
          have h4 := (S0 _ hb4A).2.1
          rw [HFM.out.1, add_plain] at h4 ⊢
          show W5.cell? ⟨gb, i * 2 + 1, none⟩ = _
          rw [blk_cell hgb5, ← blk_cell (blk_below hgbk hb4A)]; exact h4, by
          rw [HFM.out.1, add_plain]; exact blk_frozen hgb5 (i * 2 + 1)⟩
      refine hK.out _ _ (.inr hS05) ?_
      clear hK K
      (try simp only [Act.put, List.setIfInBounds_toArray, List.set_cons_zero, List.set_cons_succ])
      refine wpAnyR_one (i := 11) (o := ⟨some 52, _, _, _, _, _⟩) (by kernel_rfl) (by kernel_rfl) rfl (fun K hK => ?_)
      go_simp
      refine hK.out _ _ (.inr hS05) ?_
      clear hK K
      (try simp only [Act.put, List.setIfInBounds_toArray, List.set_cons_zero, List.set_cons_succ])
      refine wpAnyR_one (i := 12) (o := ⟨some 53, _, _, _, _, _⟩) (by kernel_rfl) (by kernel_rfl) rfl (fun K hK => ?_)
      go_simp
      refine hK.out _ _ (.inr hS05) ?_
      clear hK K
      (try simp only [Act.put, List.setIfInBounds_toArray, List.set_cons_zero, List.set_cons_succ])
      have hcg := hS05.2.1
      have hfg := hS05.2.2
      refine wpAnyR_one (i := 13) (o := ⟨none, _, _, _, _, _⟩) (by kernel_rfl) (by kernel_rfl) rfl (fun K hK => ?_)
      go_simp
      refine hK.out _ _ (.inl rfl) ?_
      clear hK K
      (try simp only [Act.put, List.setIfInBounds_toArray, List.set_cons_zero, List.set_cons_succ])
      refine wpAnyR_done (by kernel_rfl) ?_ _
      gi_wp2
      have happ := hG1.append hb4A i (by rw [HG1N.out]; omega) x (some ⟨g2, 0, none⟩) cap2 gb gc1 (by rw [HFM.out.1, HFM.out.2.1, HFM.out.2.2]) (by rw [HGD.out]; exact hS2) (by rw [HGD.out]; exact hg2)
      rw [HGD.out] at happ
      obtain ⟨g', hgk, hgr, hG6, hK6⟩ := happ
      obtain ⟨W6, hW6⟩ : ∃ W6, W5.setCell ⟨gb, i * 2 + 1, none⟩ (.slice (some ⟨g2, 0, none⟩) (grows ++ [x]).length cap2) = W6 := ⟨_, rfl⟩
      have hW6' : W5.setCell ⟨(ad.add (i * 2)).block, (ad.add (i * 2)).off + 1, none⟩ (.slice (some ⟨g2, 0, none⟩) (grows.length + 1) cap2) = W6 := by
        rw [← hW6, HFM.out.1, add_plain, show (grows ++ [x]).length = grows.length + 1 by simp]
      rw [hW6] at hG6 hK6
      rw [hW6']
      have hKA6 : Kpt M A W6 := hKA1.trans hK6 (M := M) (fun j hj h => by
        rcases h with h | h
        · exact h
        · rcases hM1 j h with z | z
          · exact z
          · omega)
      refine ⟨fun j => (M1 j ∨ A1.heap.size ≤ j) ∧ j < W6.heap.size, fun j hj => ⟨by rcases hj.1 with h | h; exact (hM1 j h).elim .inl (fun z => .inr (.inr z)); exact .inr (.inr (by have := hKA1.size; omega)), hj.2⟩, hKA6.mono (fun _ _ h => .inl h), _, _, _, hG6, ?_, hBW.trans (hKA6.below hBW.size (fun j _ h => (hG.mlt j h).1))⟩
      rw [HSN.out, ← HMAP.out]
      exact hset g' (by rw [hgk, HGD.out]) (by rw [hgr, HGD.out])
    | false =>
      have hf : ¬ (i < G.length ∧ ordK (G.getD i zGE).key P = 0) := of_decide_eq_false hbq.symm
      have HF := Lib.hid hf
      clear hf hbq
      have e53 : W3.cell? ⟨W.heap.size, 0, none⟩ = some (.slice GAd nG gcap) := blk_cell hG3.box 0
      gi_wp2
      obtain ⟨WB, hWB⟩ : ∃ WB, W3.alloc (.cells #[.slice KB P.length kc, .slice none 0 0] 65) = WB := ⟨_, rfl⟩
      have hbB : Below W3.heap.size W3 WB := by rw [← hWB]; exact below_alloc (Below.refl _ _) _
      have hvb : WB.heap[W3.heap.size]? = some (.cells #[.slice KB P.length kc, .slice none 0 0] tG (0, 0)) := by rw [← hWB]; exact blk_new _ _
      have hzB : WB.heap.size = W3.heap.size + 1 := by rw [← hWB]; simp
      rw [hWB]
      clear hWB
      have hABB : Below A.heap.size A WB := hb3A.trans (hbB.mono hb3A.size)
      have hGB := hG3.below hbB
      have hins := insert_any W.heap.size (.slice GAd nG gcap) (G.map GE.raw) i (.slice KB P.length kc, .slice none 0 0) W3.heap.size WB hGB.ga hvb ⟨rfl, rfl⟩ (fun e => by have := (hG3.mlt _ (hG3.gown W3.heap.size e.symm).1).2; omega) (by have := hBW.size; have := hABB.size; omega) (by rw [List.length_map, HNG.out]; omega) (by rw [List.length_map, HNG.out]; exact hi)
      refine ⟨trivial, rfl, calls_in _ _ (hins.mono ?_)⟩
      rintro e WC ⟨v', rfl, hGA', hgr', hat'⟩
      clear hins
      have hxC := blk_grown hGB.box hgr' (fun e => by have h3 := (hGB.gown W.heap.size e.symm).2; have := hGB.ob; omega)
      have hcb1 := blk_cell hxC 0
      have hcb2 := blk_frozen hxC 0
      obtain ⟨t, ht3, htf⟩ := fresh_tag G
      obtain ⟨hGst, hKst⟩ := hG.insert hABB i P KB kc v' t ht3 htf (Kd.R_below (Kd.R_below hk hb3) hbB) hGA' hgr' hat'
      have hl1 : (G.take i ++ (⟨P, [], KB, kc, none, 0, t⟩ : GE) :: G.drop i).length = nG + 1 := by
        rw [List.length_append, List.length_take, List.length_cons, List.length_drop, HNG.out]; omega
      have hget1 : (G.take i ++ (⟨P, [], KB, kc, none, 0, t⟩ : GE) :: G.drop i).getD i zGE = ⟨P, [], KB, kc, none, 0, t⟩ := by
        have hl : (G.take i).length = i := by rw [List.length_take, HNG.out]; omega
        rw [List.getD_eq_getElem?_getD, List.getElem?_append_right (by omega), hl, Nat.sub_self]; rfl
      have hglen2 : ∀ g ∈ (G.take i ++ (⟨P, [], KB, kc, none, 0, t⟩ : GE) :: G.drop i), g.rows.length ≤ pre.length := fun g hg => by
        rcases List.mem_append.1 hg with h | h
        · exact hglen g (List.mem_of_mem_take h)
        · rcases List.mem_cons.1 h with rfl | h
          · simp
          · exact hglen g (List.mem_of_mem_drop h)
      obtain ⟨A1c, n1c, hv'⟩ : ∃ A c, v' = .slice A (nG + 1) c := by
        obtain ⟨A', c', e⟩ := hGst.slice
        rw [hl1] at e
        exact ⟨A', c', e.1⟩
      subst hv'
      obtain ⟨ad, had⟩ : ∃ ad, A1c = some ad := by
        obtain ⟨ad, e, _⟩ := (hGst.cells rfl) i (by rw [hl1]; omega)
        exact ⟨ad, e⟩
      subst had
      have hrd1 := hkR _ _ _ _ _ hrd (hKst.mono (fun j hj h => ⟨by have := (hG.mlt j h).1; omega, fun hNj => (hN j hNj).2.2 h⟩))
      obtain ⟨Ad', c', hvv', _, hC1o⟩ := hrR _ _ _ _ hrd1
      obtain ⟨rfl, rfl⟩ : Ad = Ad' ∧ c = c' := by simpa using hvv'
      clear hvv' hrd1
      obtain ⟨n1, c1, G1, o1, M1, A1, hA1, hnn, hcc, hG1, hG1N, hglen1, hM1, hKA1, hC1, hset⟩ : ∃ (n1 c1 : Nat) (G1 : List GE) (o1 : Nat → Nat) (M1 : Nat → Prop) (A1 : World), WC.setCell ⟨W.heap.size, 0, none⟩ (.slice (some ad) (nG + 1) n1c) = A1 ∧ nG + 1 = n1 ∧ c1 = n1c ∧ GSt W.heap.size G1 (.slice (some ad) n1 c1) o1 M1 A1 ∧ G1.length = n1 ∧ (∀ g ∈ G1, g.rows.length ≤ pre.length) ∧ (∀ j, M1 j → M j ∨ A.heap.size ≤ j) ∧ Kpt M A A1 ∧ kS.C A1 Ad x.length x ∧
          (∀ g' : GE, g'.key = (G1.getD i zGE).key → g'.rows = (G1.getD i zGE).rows ++ [x] → (G1.set i g').map gp = addG (G.map gp) P x) :=
        ⟨_, _, _, _, _, _, rfl, rfl, rfl, hGst, hl1, hglen2, fun j h => h.1, hKst, hC1o, fun g' hk hr => fresh_map (by rw [HNG.out]; exact hi) HLH.out.1 HLH.out.2 HF.out (by rw [hk, hget1]) (by rw [hr, hget1]; rfl)⟩
      have HA1 := Lib.hid hA1
      have HNN := Lib.hid hnn
      clear hA1 hnn
      gi_wp2
      rw [HA1.out, HNN.out]
      have hnn := HNN.out
      clear hC1o
      subst hcc
      have hin : i < n1 := by omega
      have HG1N := Lib.hid hG1N
      clear hnn hG1N hG2 hG3 hGB hGst hKst hglen hglen2 hrise HLH HF HNG e5 e53 d1 hk hkC hget1 hl1 hxC hcb1 hcb2 hGA' hgr' hat' hvb hzB
      have hi1z : (i : Int) < (n1 : Int) := by omega
      have hbase1 : W.heap.size ≤ A1.heap.size := Nat.le_of_lt (hG1.mlt _ hG1.mb).2
      obtain ⟨gb, gc1, gcur, hgvf, hgc1, hgbk, _, _⟩ := hG1.form (by rw [HG1N.out]; omega)
      injection hgvf with hgad hgn hgcc
      injection hgad with hgad
      obtain ⟨ad', had', k0, k1⟩ := (hG1.cells rfl) i (by rw [HG1N.out]; omega)
      injection had' with had'
      subst had'
      obtain ⟨g, hgd⟩ : ∃ g, G1.getD i zGE = g := ⟨_, rfl⟩
      have hgm : g ∈ G1 := by rw [← hgd]; exact getD_mem _ (by rw [HG1N.out]; omega)
      rw [hgd] at k0 k1
      have hRg := hG1.rows g hgm
      have htg := hG1.tag3 g hgm
      have hgl : g.rows.length ≤ pre.length := hglen1 g hgm
      have HGD := Lib.hid hgd
      have HFM := Lib.hid (And.intro hgad (And.intro hgn hgcc))
      clear hgd hgad hgn hgcc hgm
      obtain ⟨gkey, grows, gka, gkc, gra, grc, gtag⟩ := g
      simp only [GE.raw] at k0 k1 hRg hgl htg
      have HRG := Lib.hid hRg
      clear hRg
      have S0 : ∀ V : World, Below A1.heap.size A1 V → V.cell? ⟨W.heap.size, 0, none⟩ = some (.slice (some ad) n1 c1) ∧ V.cell? ⟨(ad.add (i * 2)).block, (ad.add (i * 2)).off + 1, none⟩ = some (.slice gra grows.length grc) ∧ V.frozen? ⟨(ad.add (i * 2)).block, (ad.add (i * 2)).off + 1, none⟩ = false :=
        fun V hV => ⟨blk_cell (blk_below hG1.box hV) 0, pw_cell_below hV k1, by
          have := blk_frozen (blk_below hgbk hV) (i * 2 + 1)
          rw [HFM.out.1, add_plain]; exact this⟩
      refine wpIn_region_R 13 (S := fun V => V.cell? ⟨W.heap.size, 0, none⟩ = some (.slice (some ad) n1 c1) ∧ V.cell? ⟨(ad.add (i * 2)).block, (ad.add (i * 2)).off + 1, none⟩ = some (.slice gra grows.length grc) ∧ V.frozen? ⟨(ad.add (i * 2)).block, (ad.add (i * 2)).off + 1, none⟩ = false) (by kernel_rfl) (S0 _ (below_drew (Below.refl _ _))) (fun hS0 => ?_)
      refine wpAnyR_take (i := 0) (oi := ⟨some 41, _, _, _, _, _⟩) (v := ?_) (by kernel_rfl) (by kernel_rfl) rfl (by kernel_rfl) (by kernel_rfl) (by kernel_rfl) (fun _ _ _ h => h) (Or.inl ⟨by rfl, ?_⟩) (by assumption) ?_
      rotate_left
      · intro w hSw; (try dsimp only at hSw); (try go_split_ands); go_simp; (try (with_reducible rfl))
      (try simp only [Act.put, List.setIfInBounds_toArray, List.set_cons_zero, List.set_cons_succ])
      refine wpAnyR_take (i := 1) (oi := ⟨some 42, _, _, _, _, _⟩) (v := ?_) (by kernel_rfl) (by kernel_rfl) rfl (by kernel_rfl) (by kernel_rfl) (by kernel_rfl) (fun _ _ _ h => h) (Or.inl ⟨by rfl, ?_⟩) (by assumption) ?_
      rotate_left
      · intro w hSw; (try dsimp only at hSw); (try go_split_ands); go_simp; (try (with_reducible rfl))
      (try simp only [Act.put, List.setIfInBounds_toArray, List.set_cons_zero, List.set_cons_succ])
      refine wpAnyR_take (i := 2) (oi := ⟨some 43, _, _, _, _, _⟩) (v := ?_) (by kernel_rfl) (by kernel_rfl) rfl (by kernel_rfl) (by kernel_rfl) (by kernel_rfl) (fun _ _ _ h => h) (Or.inl ⟨by rfl, ?_⟩) (by assumption) ?_
      rotate_left
      · intro w hSw; (try dsimp only at hSw); (try go_split_ands); go_simp; (try (with_reducible rfl))
      (try simp only [Act.put, List.setIfInBounds_toArray, List.set_cons_zero, List.set_cons_succ])
      refine wpAnyR_take (i := 3) (oi := ⟨some 44, _, _, _, _, _⟩) (v := ?_) (by kernel_rfl) (by kernel_rfl) rfl (by kernel_rfl) (by kernel_rfl) (by kernel_rfl) (fun _ _ _ h => h) (Or.inl ⟨by rfl, ?_⟩) (by assumption) ?_
      rotate_left
      · intro w hSw; (try dsimp only at hSw); (try go_split_ands); go_simp; (try (with_reducible rfl))
      (try simp only [Act.put, List.setIfInBounds_toArray, List.set_cons_zero, List.set_cons_succ])
      refine wpAnyR_take (i := 4) (oi := ⟨some 45, _, _, _, _, _⟩) (v := ?_) (by kernel_rfl) (by kernel_rfl) rfl (by kernel_rfl) (by kernel_rfl) (by kernel_rfl) (fun _ _ _ h => h) (Or.inl ⟨by rfl, ?_⟩) (by assumption) ?_
      rotate_left
      · intro w hSw; (try dsimp only at hSw); (try go_split_ands); go_simp; (try (with_reducible rfl))
      (try simp only [Act.put, List.setIfInBounds_toArray, List.set_cons_zero, List.set_cons_succ])
      refine wpAnyR_take (i := 5) (oi := ⟨some 46, _, _, _, _, _⟩) (v := ?_) (by kernel_rfl) (by kernel_rfl) rfl (by kernel_rfl) (by kernel_rfl) (by kernel_rfl) (fun _ _ _ h => h) (Or.inl ⟨by rfl, ?_⟩) (by assumption) ?_
      rotate_left
      · intro w hSw; (try dsimp only at hSw); (try go_split_ands); go_simp; (try (with_reducible rfl))
      (try simp only [Act.put, List.setIfInBounds_toArray, List.set_cons_zero, List.set_cons_succ])
      refine wpAnyR_take (i := 6) (oi := ⟨some 47, _, _, _, _, _⟩) (v := ?_) (by kernel_rfl) (by kernel_rfl) rfl (by kernel_rfl) (by kernel_rfl) (by kernel_rfl) (fun _ _ _ h => h) (Or.inl ⟨by rfl, ?_⟩) (by assumption) ?_
      rotate_left
      · intro w hSw; (try dsimp only at hSw); (try go_split_ands); go_simp; (try (with_reducible rfl))
      (try simp only [Act.put, List.setIfInBounds_toArray, List.set_cons_zero, List.set_cons_succ])
      refine wpAnyR_take (i := 7) (oi := ⟨some 48, _, _, _, _, _⟩) (v := ?_) (by kernel_rfl) (by kernel_rfl) rfl (by kernel_rfl) (by kernel_rfl) (by kernel_rfl) (fun _ _ _ h => h) (Or.inl ⟨by rfl, ?_⟩) (by assumption) ?_
      rotate_left
      · intro w hSw; (try dsimp only at hSw); (try go_split_ands); go_simp; (try (with_reducible rfl))
      (try simp only [Act.put, List.setIfInBounds_toArray, List.set_cons_zero, List.set_cons_succ])
      refine wpAnyR_one (i := 8) (o := ⟨some 49, _, _, _, _, _⟩) (by kernel_rfl) (by kernel_rfl) rfl (fun K hK => ?_)
      go_simp
      refine (clone_any Ad x c A1.drew (Kd.C_drew hC1) hle (by omega)).mono ?_
      rintro e W4 ⟨v1, rfl, hR1, hb4⟩
      have hb4A : Below A1.heap.size A1 W4 := (below_drew (Below.refl _ A1)).trans hb4
      (try dsimp only)
      refine hK.out _ _ (.inr (S0 _ hb4A)) ?_
      clear hK K
      (try simp only [Act.put, List.setIfInBounds_toArray, List.set_cons_zero, List.set_cons_succ])
      obtain ⟨X1, x1c, rfl, hle1, hCx1⟩ := Kd.R_reads hR1
      refine wpAnyR_one (i := 9) (o := ⟨some 50, _, _, _, _, _⟩) (by kernel_rfl) (by kernel_rfl) rfl (fun K hK => ?_)
      go_simp
      refine hK.out _ _ (.inr (S0 _ (below_alloc hb4A _))) ?_
      clear hK K
      (try simp only [Act.put, List.setIfInBounds_toArray, List.set_cons_zero, List.set_cons_succ])
      refine wpAnyR_one (i := 10) (o := ⟨some 51, _, _, _, _, _⟩) (by kernel_rfl) (by kernel_rfl) rfl (fun K hK => ?_)
      have hzA4 : A1.heap.size ≤ W4.heap.size := hb4A.size
      refine Kd.R_append_step kRows (w0 := A1) W.heap.size (by rfl) (.tmp 47) (.tmp 50) 22 31 _ 24 rfl Try.underlying22 infoRow rfl (by decide) (by decide) (.slice gra grows.length grc) grows x [.slice X1 x.length x1c]
        (fun k => (M1 k ∧ o1 k = gtag) ∨ A1.heap.size ≤ k) (fun k => (Value.slice X1 x.length x1c).ownBlock = some k) rfl rfl ⟨_, rfl, RS_ok (Kd.R_lower hR1 (by show W.heap.size ≤ A1.heap.size; omega)) (fun _ h => h)⟩ ?_ (fun k hk => .inr (by omega)) ?_ (hb4A.mono (by omega)) (by omega) (by omega) ?_
      · intro k hk
        have := Kd.R_base hR1 k hk
        exact ⟨.inr this, fun e => by have h2 := Kd.R_lt HRG.out k e.symm; exact absurd this (by show ¬ A1.heap.size ≤ k; omega)⟩
      · exact Kd.R_mono (Kd.R_below HRG.out hb4A) (fun k hk => .inl hk)
      intro v2 W5 hS2 hB2 hg2 hat2
      obtain ⟨g2, cap2, rfl, hg2b, hg2l, cells2, hcells2⟩ := Kd.R_form hS2 (by simp)
      have hown : ∀ j, (Value.slice gra grows.length grc).ownBlock = some j → M1 j ∧ o1 j = gtag := HRG.out.1
      have hbx5 := blk_grown (blk_below hG1.box hb4A) hg2 (fun e => by have h3 := (hown W.heap.size e.symm).2; have h5 := hG1.ob; omega)
      have hgb5 := blk_grown (blk_below hgbk hb4A) hg2 (fun e => by have h3 := (hown gb e.symm).2; have h5 := (hG1.gown gb (by rw [HFM.out.1]; rfl)).2; omega)
      have hS05 : W5.cell? ⟨W.heap.size, 0, none⟩ = some (.slice (some ad) n1 c1) ∧ W5.cell? ⟨(ad.add (i * 2)).block, (ad.add (i * 2)).off + 1, none⟩ = some (.slice gra grows.length grc) ∧ W5.frozen? ⟨(ad.add (i * 2)).block, (ad.add (i * 2)).off + 1, none⟩ = false :=
        ⟨blk_cell hbx5 0, by
          have h4 := (S0 _ hb4A).2.1
          rw [HFM.out.1, add_plain] at h4 ⊢
          show W5.cell? ⟨gb, i * 2 + 1, none⟩ = _
          rw [blk_cell hgb5, ← blk_cell (blk_below hgbk hb4A)]; exact h4, by
          rw [HFM.out.1, add_plain]; exact blk_frozen hgb5 (i * 2 + 1)⟩
      refine hK.out _ _ (.inr hS05) ?_
      clear hK K
      (try simp only [Act.put, List.setIfInBounds_toArray, List.set_cons_zero, List.set_cons_succ])
      refine wpAnyR_one (i := 11) (o := ⟨some 52, _, _, _, _, _⟩) (by kernel_rfl) (by kernel_rfl) rfl (fun K hK => ?_)
      go_simp
      refine hK.out _ _ (.inr hS05) ?_
      clear hK K
      (try simp only [Act.put, List.setIfInBounds_toArray, List.set_cons_zero, List.set_cons_succ])
      refine wpAnyR_one (i := 12) (o := ⟨some 53, _, _, _, _, _⟩) (by kernel_rfl) (by kernel_rfl) rfl (fun K hK => ?_)
      go_simp
      refine hK.out _ _ (.inr hS05) ?_
      clear hK K
      (try simp only [Act.put, List.setIfInBounds_toArray, List.set_cons_zero, List.set_cons_succ])
      have hcg := hS05.2.1
      have hfg := hS05.2.2
      refine wpAnyR_one (i := 13) (o := ⟨none, _, _, _, _, _⟩) (by kernel_rfl) (by kernel_rfl) rfl (fun K hK => ?_)
      go_simp
      refine hK.out _ _ (.inl rfl) ?_
      clear hK K
      (try simp only [Act.put, List.setIfInBounds_toArray, List.set_cons_zero, List.set_cons_succ])
      refine wpAnyR_done (by kernel_rfl) ?_ _
      gi_wp2
      have happ := hG1.append hb4A i (by rw [HG1N.out]; omega) x (some ⟨g2, 0, none⟩) cap2 gb gc1 (by rw [HFM.out.1, HFM.out.2.1, HFM.out.2.2]) (by rw [HGD.out]; exact hS2) (by rw [HGD.out]; exact hg2)
      rw [HGD.out] at happ
      obtain ⟨g', hgk, hgr, hG6, hK6⟩ := happ
      obtain ⟨W6, hW6⟩ : ∃ W6, W5.setCell ⟨gb, i * 2 + 1, none⟩ (.slice (some ⟨g2, 0, none⟩) (grows ++ [x]).length cap2) = W6 := ⟨_, rfl⟩
      have hW6' : W5.setCell ⟨(ad.add (i * 2)).block, (ad.add (i * 2)).off + 1, none⟩ (.slice (some ⟨g2, 0, none⟩) (grows.length + 1) cap2) = W6 := by
        rw [← hW6, HFM.out.1, add_plain, show (grows ++ [x]).length = grows.length + 1 by simp]
      rw [hW6] at hG6 hK6
      rw [hW6']
      have hKA6 : Kpt M A W6 := hKA1.trans hK6 (M := M) (fun j hj h => by
        rcases h with h | h
        · exact h
        · rcases hM1 j h with z | z
          · exact z
          · omega)
      refine ⟨fun j => (M1 j ∨ A1.heap.size ≤ j) ∧ j < W6.heap.size, fun j hj => ⟨by rcases hj.1 with h | h; exact (hM1 j h).elim .inl (fun z => .inr (.inr z)); exact .inr (.inr (by have := hKA1.size; omega)), hj.2⟩, hKA6.mono (fun _ _ h => .inl h), _, _, _, hG6, ?_, hBW.trans (hKA6.below hBW.size (fun j _ h => (hG.mlt j h).1))⟩
      rw [HSN.out, ← HMAP.out]
      exact hset g' (by rw [hgk, HGD.out]) (by rw [hgr, HGD.out])
  case done =>
    intro D W2 M' hI hk hM' hD hDw hDM
    obtain ⟨G, gv, o, hG, hmap, hBW⟩ := hI
    obtain ⟨GAd, gcap, rfl, hgcap⟩ := hG.slice
    have hbwW2 : Below w.heap.size w W2 := hW.trans (hBW.mono hzw)
    have hzW2 := hBW.size
    have hglen : ∀ g ∈ G, g.rows.length ≤ xs.length ∧ g.key.length ≤ by'.length := fun g hg => by
      have hm : gp g ∈ groupsL by' xs := by rw [← hmap]; exact List.mem_map_of_mem hg
      have h := (groupsL_inv by' xs).mine (gp g) hm
      have h' : g.rows = xs.filter (mineB by' g.key) := h
      exact ⟨by rw [h']; exact List.length_filter_le _ _, Nat.le_of_eq (groupsL_klen by' xs _ hm)⟩
    have hGl : G.length ≤ xs.length + 1 := by have := groupsL_len by' xs; rw [← hmap, List.length_map] at this; exact this
    have hnxt := fun k hk => groupL_take by' aggs xs G hmap k hk
    have hall : (groupL by' aggs xs).take G.length = groupL by' aggs xs := List.take_of_length_le (by unfold groupL; rw [← hmap]; simp)
    obtain ⟨nG, hnG⟩ : ∃ nG, G.length = nG := ⟨_, rfl⟩
    rw [hnG] at hGl hgcap hnxt hall hG
    have HNG := Lib.hid hnG
    have HNX := Lib.hid hnxt
    have HALL := Lib.hid hall
    clear hnG hnxt hall hmap
    have e5 : W2.cell? ⟨W.heap.size, 0, none⟩ = some (.slice GAd nG gcap) := blk_cell hG.box 0
    have hDW : W.heap.size ≤ D := by omega
    have hD2 : D < W2.heap.size := (Array.getElem?_eq_some_iff.1 hD).1
    gi_wp2
    gi_loopw [56] (fun iv wr => ∃ (k : Nat) (Mh : Nat → Prop), iv = .int .i64 k ∧ k ≤ nG ∧ J3 J Mc (fun _ => False) W W2 ((groupL by' aggs xs).take k) Mh wr) (fun iv _ => nG - (intOf iv).toNat)
    case atStart => exact ⟨0, _, rfl, Nat.zero_le _, Mc, by simpa using hJ _ _ _ _ h0 (Kpt.of_new _ hBW), fun i => Iff.rfl, fun i hi => ⟨.inl hi, by have := hMcW i hi; omega⟩, Kpt.refl _ _⟩
    case round =>
      obtain ⟨k, Mh, rfl, hkn, hJ3⟩ := hrel
      obtain ⟨WR, rfl⟩ : ∃ WR, WR = wr := ⟨_, rfl⟩
      have hKr : Kpt (fun i => Mc i ∨ False) W2 WR := by obtain ⟨_, _, _, _, h⟩ := hJ3; exact h
      have hGr : GSt W.heap.size G (.slice GAd nG gcap) o M' WR := hG.kept hKr.size (fun j hj => hKr.block j (hG.mlt j hj).2 (fun h => by rcases h with h | h; have := hMcW j h; have := (hG.mlt j hj).1; omega; exact h))
      have hbwr : Below w.heap.size w WR := hbwW2.trans (hJ3.below (fun i h => (hMc i h).1) (fun _ h => h.elim) hbwW2.size)
      have hzr := hKr.size
      have hDk : WR.heap[D]? = some (.deferred (some [])) := hKr.at hD (fun h => by rcases h with h | h; have := hMcW D h; omega; exact h)
      by_cases hlt : k < nG
      · have hltz : (k : Int) < (nG : Int) := by omega
        obtain ⟨ad, rfl, c0, c1⟩ := (hGr.cells rfl) k (by rw [HNG.out]; omega)
        obtain ⟨g, hgd⟩ : ∃ g, G.getD k zGE = g := ⟨_, rfl⟩
        have hgm : g ∈ G := by rw [← hgd]; exact getD_mem _ (by rw [HNG.out]; omega)
        have hnx := HNX.out k hlt
        rw [hgd] at c0 c1 hnx
        obtain ⟨hkl, hkC⟩ := hGr.keyOk g hgm
        obtain ⟨_, hrl, hrC⟩ := Kd.R_reads' (hGr.rows g hgm)
        have hgl := hglen g hgm
        clear hgd hgm
        obtain ⟨gkey, grows, gka, gkc, gra, grc, gtag⟩ := g
        simp only [GE.raw] at c0 c1 hnx hkl hkC hrl hrC hgl
        have HNY := Lib.hid hnx
        clear hnx
        obtain ⟨W3, hW3⟩ : ∃ W3, WR.alloc (.cells #[.slice gka gkey.length gkc, .slice gra grows.length grc] 65) = W3 := ⟨_, rfl⟩
        have hb3 : Below WR.heap.size WR W3 := by rw [← hW3]; exact below_alloc (Below.refl _ _) _
        have hx11 : W3.heap[WR.heap.size]? = some (.cells #[.slice gka gkey.length gkc, .slice gra grows.length grc] 65 (0, 0)) := by rw [← hW3]; exact blk_new _ _
        have q60 := blk_cell hx11 0
        gi_wp2
        refine ⟨trivial, rfl, callsIn_wide.2 ?_⟩
        refine (clone_any gka gkey gkc W3 (Kd.C_below hkC hb3) hkl (by omega)).mono ?_
        rintro e W4 ⟨vo, rfl, hRo, hb4⟩
        clear hW3
        have hb4r : Below WR.heap.size WR W4 := hb3.trans (hb4.mono hb3.size)
        have hbw4 : Below w.heap.size w W4 := hbwr.trans (hb4r.mono hbwr.size)
        have d3 : W4.cell? ⟨b3, 0, none⟩ = some (.slice gA aggs.length gc) := pw_cell_below hbw4 h3
        have hx14 := blk_below hx11 hb4
        obtain ⟨OA, oc, rfl⟩ := Kd.R_slice hRo
        have hRo' : kS.R tS W4 WR.heap.size (fun k => k ≠ WR.heap.size) (.slice OA gkey.length oc) gkey := Kd.R_mono (Kd.R_lower (Kd.R_bound hRo) hb3.size) (fun k hk => by have := hk.2.1; have := blk_lt hx11; omega)
        have hz4 := hb4r.size
        clear hRo hkC q60 c0 c1
        gi_wp2
        gi_loopw [12, 65] (fun out i V => ∃ j : Nat, i = .int .i64 j ∧ j ≤ aggs.length ∧ kS.R tS V WR.heap.size (fun k => k ≠ WR.heap.size) out (gkey ++ (aggs.take j).map (fun a => toldS a grows)) ∧ Below WR.heap.size WR V ∧ V.heap[WR.heap.size]? = some (.cells #[.slice gka gkey.length gkc, .slice gra grows.length grc] 65 (0, 0))) (fun _ i _ => aggs.length - (intOf i).toNat)
        case atStart => exact ⟨0, rfl, Nat.zero_le _, by simpa using hRo', hb4r, hx14⟩
        case round =>
          obtain ⟨j, rfl, hja, hRj, hBj, hxj⟩ := hrel
          have hbwj : Below w.heap.size w wr := hbwr.trans (hBj.mono hbwr.size)
          by_cases hjl : j < aggs.length
          · refine wpIn_wide.2 ?_
            have hjz : (j : Int) < (aggs.length : Int) := by omega
            obtain ⟨ga, cs, rfl, _, hKa, hcs⟩ := Kd.C_get (Kd.C_below hag hbwj) z48 j (by omega) (by omega)
            have hop := k48_open hKa
            have hsz : kA.sz = 2 := rfl
            have hro := rowOut_snoc gkey grows aggs j hjl
            rw [Int.toNat_natCast] at hop
            obtain ⟨ag, hagd⟩ : ∃ ag, aggs.getD j z48 = ag := ⟨_, rfl⟩
            rw [hagd] at hop hro
            have a0 := hcs 0 (.int .i64 ag.f0) (by rw [hop]; rfl)
            have a1 := hcs 1 (.int .i64 ag.f1) (by rw [hop]; rfl)
            rw [hsz, Int.toNat_natCast, Nat.add_zero] at a0
            rw [hsz, Int.toNat_natCast, add_field _ _ 1 (by omega)] at a1
            clear hcs hop hKa hagd
            obtain ⟨op, col⟩ := ag
            simp only at a0 a1
            have HRO := Lib.hid hro
            clear hro
            have f0 := blk_cell (blk_alloc hxj (.cells #[.int .i64 op, .int .i64 col] 48)) 0
            have f1 := blk_cell (blk_alloc hxj (.cells #[.int .i64 op, .int .i64 col] 48)) 1
            have hll : (gkey ++ (aggs.take j).map (fun a => toldS a grows)).length ≤ 2097152 := by rw [List.length_append, List.length_map, List.length_take]; omega
            generalize gkey ++ (aggs.take j).map (fun a => toldS a grows) = LL at *
            have HRJ := Lib.hid hRj
            clear hRj
            go_wp2_with fail
            refine (told_any gka gkey.length gkc gra grows grc op col _ (Kd.C_alloc (Kd.C_below hrC hBj) _) (by omega)).mono ?_
            rintro e W5 ⟨he, hb5⟩
            have hb5' : Below wr.heap.size wr W5 := (below_alloc (Below.refl _ _) _).trans (hb5.mono (by simp))
            have hRO := HRO.out
            generalize toldS ⟨op, col⟩ grows = y at he hRO
            obtain ⟨y0, y1, y2, y3⟩ := y
            have he' : e = .returned (.agg #[.int .i64 y0, .bool y1, .int .i64 y2, .string y3]) := he
            subst he'
            have HRO2 := Lib.hid hRO
            clear he hRO HRO
            have hB5 : Below WR.heap.size WR W5 := hBj.trans (hb5'.mono hBj.size)
            have hx5j := blk_below hxj hb5'
            have hz5 := hB5.size
            have hRj5 := Kd.R_below HRJ.out hb5'
            go_wp2_with (at_builtin; refine Kd.R_append kS (w0 := WR) WR.heap.size rfl (.tmp 69) (.tmp 73) 31 42 _ 40 rfl Try.underlying31 infoS rfl (by decide) (by decide) u12 LL ⟨y0, y1, y2, y3⟩ [.int .i64 y0, .bool y1, .int .i64 y2, .string y3] (fun k => k ≠ WR.heap.size) (fun _ => False) rfl rfl (k42_mkM _ _ _ _) (fun _ h => h.elim) (fun k hk => by have := blk_lt hx5j; omega) hRj5 hB5 hz5 (by omega) ?_; intro v1 w1 hv1 hB1 hg1 hat1; have hx6j := blk_grown hx5j hg1 (Kd.R_away hRj5 (fun k hk => hk)))
            go_roundw
            case rel => exact ⟨j + 1, by go_num, by omega, by rw [HRO2.out]; exact hv1, hB1, hx6j⟩
            case measure => simp [intOf]; omega
          · obtain rfl : j = aggs.length := by omega
            rw [List.take_length] at hRj
            have hpp : ((groupL by' aggs xs).take k ++ [gkey ++ aggs.map (fun a => toldS a grows)]) <+: groupL by' aggs xs := by rw [← HNY.out]; exact List.take_prefix _ _
            obtain ⟨fn, tmps, assign, body, hy, hRn⟩ := hJ3.yield hcons hzW2 hBj (Kd.R_mono hRj (fun _ _ => trivial)) hpp
            gi_wp2
            refine ⟨rfl, hRn.mono ?_⟩
            rintro e W9 ⟨M9, hM9, hk9, hk9', (⟨rfl, hJ9⟩ | ⟨rfl, hJ9⟩)⟩
            · gi_wp2
              go_roundw
              case rel => exact ⟨k + 1, M9, by go_num, by omega, by rw [HNY.out]; exact hJ9⟩
              case measure => simp [intOf]; omega
            · gi_wp2
              have hDk9 : W9.heap[D]? = some (.deferred (some [])) := by
                obtain ⟨_, _, _, _, h⟩ := hJ9
                exact h.at hD (fun h => by rcases h with h | h; have := hMcW D h; omega; exact h)
              refine ⟨by simp, .inl ⟨_, _, rfl, run_takeDeferred hDk9, ?_⟩⟩
              obtain ⟨M4, h41, h42, h43⟩ := hJ9.ends hJx hMcW (fun _ h => h.elim) hBW hDW (fun h => by omega) (o := .deferred none)
              exact ⟨_, results_none rfl _ _ _, ⟨_, rfl⟩, M4, h41, h42, .inr ⟨_, hpp, h43⟩⟩
      · obtain rfl : k = nG := by omega
        rw [HALL.out] at hJ3
        gi_wp2
        refine ⟨by simp, .inl ⟨_, _, rfl, run_takeDeferred hDk, ?_⟩⟩
        obtain ⟨M4, h41, h42, h43⟩ := hJ3.ends hJ hMcW (fun _ h => h.elim) hBW hDW (fun h => by omega) (o := .deferred none)
        exact ⟨_, results_none rfl _ _ _, ⟨_, rfl⟩, M4, h41, h42, .inl h43⟩
end Go.Proofs.Ytghblnldokpceaa.QV
/- exec.Group: what its iterator gives (without a key). -/
namespace Go.Proofs.Ytghblnldokpceaa.QV
open Go.RowKit Go.Proofs.YtghblnldokpceaaW.PrintWords Go.Proofs.Ytghblnldokpceaa.Seq Go.Shelf Go.Proofs.Ytghblnldokpceaa.Op Go.Proofs.Ytghblnldokpceaa.Stab
set_option linter.unusedVariables false
set_option linter.unusedSimpArgs false
attribute [local go_sem] Oper.semAt_some

set_option maxRecDepth 100000 in
set_option maxHeartbeats 8000000 in
theorem group_seq_nil (by' : List Int) (aggs : List Ag) (xs : List Row) (sv : Value) (b1 b2 b3 : Nat) (bA : Option Addr) (bc : Nat) (gA : Option Addr) (gc : Nat) (w : World) (hR : IsSeq w sv xs)
    (h1 : w.cell? ⟨b1, 0, none⟩ = some (.slice bA by'.length bc)) (h2 : w.cell? ⟨b2, 0, none⟩ = some sv) (h3 : w.cell? ⟨b3, 0, none⟩ = some (.slice gA aggs.length gc))
    (hby : kI.C w bA by'.length by') (hbc : by'.length ≤ bc) (hag : kA.C w gA aggs.length aggs) (hgc : aggs.length ≤ gc)
    (hb : ∀ x ∈ xs, x.length ≤ 1048576) (hn : xs.length ≤ 1048576) (hb1 : by'.length ≤ 1048576) (hb2 : aggs.length ≤ 1048576) (hcase : by' = []) :
    SeqOf Try.prog 39 #[.pointer (some ⟨b1, 0, none⟩), .pointer (some ⟨b2, 0, none⟩), .pointer (some ⟨b3, 0, none⟩)] (RdNew w) (groupL by' aggs xs) w := by
  intro l J Jx W Mc hW hMc hJ hJx hY h0
  have hcons : Cons Try.prog w W l J Jx Mc (groupL by' aggs xs) := ⟨hW, hMc, hJ, hJx, hY⟩
  have hzw : w.heap.size ≤ W.heap.size := hW.size
  have hMcW : ∀ i, Mc i → i < W.heap.size := fun i h => (hMc i h).2
  obtain ⟨gR, lbR, RdR, rfl, egR, hsR, hkR, hrR⟩ := hR
  refine (callsIn_wide (n := 0)).1 (callsIn_of_wp_marks Try.func39 rfl trivial ?_ rfl)
  simp only [Try.ntmps39, List.size_toArray, List.length_cons, List.length_nil, Nat.reduceAdd, Nat.reduceSub, Array.replicate_succ, Array.replicate_zero, List.push_toArray, List.append_toArray, List.nil_append, List.cons_append]
  have hbWa : Below W.heap.size W (W.alloc (.cells #[.slice none 0 0] 63)) := below_alloc (Below.refl _ _) _
  have d1 : (W.alloc (.cells #[.slice none 0 0] 63)).cell? ⟨b1, 0, none⟩ = some (.slice bA by'.length bc) := pw_cell_below (hW.trans (hbWa.mono hzw)) h1
  have hlb : ((by'.length : Int) == 0) = true := by rw [hcase]; rfl
  have HC := Lib.hid hcase
  clear hcase
  obtain ⟨cap, hcap⟩ : ∃ cap, (Question.appendCap 1 0 65).cut (W.tape W.drawn (Question.appendCap 1 0 65)) = cap := ⟨_, rfl⟩
  have hcap1 : 1 ≤ cap := by rw [← hcap]; exact grownCap_ge W 1 0 65
  have hcap2 : cap ≤ maxLen := by rw [← hcap]; exact grownCap_le_maxLen W 1 0 65 (by unfold maxLen; omega)
  obtain ⟨cs0, hcs0⟩ : ∃ cs0 : Array Value, #[Value.slice none 0 0, Value.slice none 0 0] ++ Builtin.zeroCells #[Value.slice none 0 0, Value.slice none 0 0] (cap - 1) = cs0 := ⟨_, rfl⟩
  obtain ⟨W1, hW1⟩ : ∃ W1, (((W.alloc (.cells #[.slice (some ⟨W.heap.size + 1 + 1, 0, none⟩) 1 cap] 63)).alloc (.cells #[.slice none 0 0, .slice none 0 0] 65)).alloc (.cells cs0 65)).drew = W1 := ⟨_, rfl⟩
  have hbW1 : Below W.heap.size W W1 := by rw [← hW1]; exact below_drew (below_alloc (below_alloc (below_alloc (Below.refl _ _) _) _) _)
  have hszW1 : W1.heap.size = W.heap.size + 3 := by rw [← hW1]; simp
  have hx5 : W1.heap[W.heap.size]? = some (.cells #[.slice (some ⟨W.heap.size + 1 + 1, 0, none⟩) 1 cap] 63 (0, 0)) := by rw [← hW1]; exact blk_drew (blk_alloc (blk_alloc (blk_new _ _) _) _)
  have hxg : W1.heap[W.heap.size + 1 + 1]? = some (.cells cs0 65 (0, 0)) := by
    have := blk_new ((W.alloc (.cells #[.slice (some ⟨W.heap.size + 1 + 1, 0, none⟩) 1 cap] 63)).alloc (.cells #[.slice none 0 0, .slice none 0 0] 65)) (.cells cs0 65)
    rw [World.size_alloc, World.size_alloc] at this
    rw [← hW1]; exact blk_drew this
  have hcsz : cs0.size = cap * 2 := by
    rw [← hcs0]
    have hc2 : (#[Value.slice none 0 0, Value.slice none 0 0] : Array Value).size = 2 := rfl
    simp only [Array.size_append, size_zeroCells, hc2]
    omega
  have hcst : cs0.toList.take (1 * 2) = fl [(.slice none 0 0, .slice none 0 0)] := by
    rw [← hcs0, Array.toList_append]
    rfl
  have d2 : W1.cell? ⟨b2, 0, none⟩ = some (.func (.func gR) #[] lbR) := pw_cell_below (hW.trans (hbW1.mono hzw)) h2
  obtain ⟨G0, gv0, o0, M0, hG0, hmap0, hM0⟩ : ∃ (G0 : List GE) (gv0 : Value) (o0 : Nat → Nat) (M0 : Nat → Prop), GSt W.heap.size G0 gv0 o0 M0 W1 ∧ G0.map gp = groupsL by' [] ∧ (∀ i, M0 i → W.heap.size ≤ i ∧ i < W1.heap.size) := by
    refine ⟨[⟨[], [], none, 0, none, 0, 3⟩], .slice (some ⟨W.heap.size + 1 + 1, 0, none⟩) 1 cap, fun i => if i = W.heap.size then 0 else 1, fun i => i = W.heap.size ∨ i = W.heap.size + 1 + 1, ⟨hx5, .inl rfl, if_pos rfl, ⟨⟨rfl, .inr ⟨_, cap, cs0, rfl, by omega, hxg, hcap1, hcap2, hcsz, hcst⟩⟩, ?_⟩, ?_, ?_, ?_, ?_, ?_, ?_⟩, by rw [HC.out]; rfl, ?_⟩
    · intro x hx
      rw [List.mem_singleton.1 hx]
      exact ⟨rfl, rfl⟩
    · intro k hk
      have : W.heap.size + 1 + 1 = k := by simpa [Value.ownBlock] using hk
      subst this
      exact ⟨.inr rfl, if_neg (by omega)⟩
    · intro g hg; rw [List.mem_singleton.1 hg]; exact Nat.le_refl _
    · simp
    · intro g hg; rw [List.mem_singleton.1 hg]; exact Kd.R_nil _ _ _ _ _
    · intro g hg; rw [List.mem_singleton.1 hg]; exact Kd.R_nil _ _ _ _ _
    · intro k hk; omega
    · intro k hk; omega
  gi_wp2
  clear hW1 hcs0 hcap d1 hcst
  refine wpIn_range (gf := gR) (lb := lbR) rfl egR hsR (hW.trans (hbW1.mono hzw)) (fun A N x vs h => by obtain ⟨Ad, c, rfl, _⟩ := hrR _ _ _ _ h; rfl) hkR
    (GrpJ W by') (fun _ _ _ _ => False) (fun pre M A B h hk => h.kept (fun i h => by omega) hk) (fun _ _ _ _ _ h _ => h)
    M0 ?hM ?h0 (fun x vs a₁ M A => ∃ v, vs = #[v] ∧ a₁ = { tmps := #[.func (.yield l) #[] #[], .pointer (some ⟨b1, 0, none⟩), .pointer (some ⟨b2, 0, none⟩), .pointer (some ⟨b3, 0, none⟩), undef, .pointer (some ⟨W.heap.size, 0, none⟩), v, undef, undef, undef, undef, undef, undef, undef, undef, .slice bA by'.length bc, .int .i64 by'.length, .bool true, .slice none 0 0, .agg #[.slice none 0 0, .slice none 0 0], .slice (some ⟨W.heap.size + 1, 0, none⟩) 1 1, .slice (some ⟨W.heap.size + 1 + 1, 0, none⟩) 1 cap, .func (.func gR) #[] lbR, v] ++ Array.replicate 57 undef, defers := [] })
    (fun _ _ _ _ _ _ h _ => h) ?assign ?body ?done ?stop
  case hM => exact fun i hi => ⟨Nat.le_trans hzw (hM0 i hi).1, (hM0 i hi).2⟩
  case h0 => exact ⟨G0, gv0, o0, hG0, hmap0, hbW1⟩
  case stop =>
    intro D c pre W M' hpre h
    exact h.elim
  case assign =>
    intro l2 pre x vs N A M hI hpre hrd hM hN
    obtain ⟨Ad, c, rfl, hle, hC⟩ := hrR _ _ _ _ hrd
    gi_wp2
    refine ⟨M, fun i hi => ⟨.inl hi, (hM i hi).2⟩, Kpt.refl _ _, hI, _, rfl, ?_⟩
    simp only [List.size_toArray, List.length_cons, List.length_nil, Nat.reduceAdd, Nat.reduceSub, Array.replicate_succ, Array.replicate_zero, List.push_toArray, List.append_toArray, List.nil_append, List.cons_append]
  case body =>
    intro l2 pre x vs N A M a₁ hI hpre hrd hax hM hN
    obtain ⟨v, rfl, rfl⟩ := hax
    simp only [List.size_toArray, List.length_cons, List.length_nil, Nat.reduceAdd, Nat.reduceSub, Array.replicate_succ, Array.replicate_zero, List.push_toArray, List.append_toArray, List.nil_append, List.cons_append]
    obtain ⟨G, gv, o, hG, hmap, hBW⟩ := hI
    obtain ⟨Ad, c, hvv, hle, hC⟩ := hrR _ _ _ _ hrd
    obtain rfl : v = .slice Ad x.length c := by simpa using hvv
    clear hvv
    have hx1 := hb x (hpre.subset (by simp))
    have hlen : pre.length + 1 ≤ xs.length := by have := hpre.length_le; simpa using this
    have hglen : ∀ g ∈ G, g.rows.length ≤ pre.length := fun g hg => by
      have h := (groupsL_inv by' pre).mine (gp g) (by rw [← hmap]; exact List.mem_map_of_mem hg)
      have h' : g.rows = pre.filter (mineB by' g.key) := h
      rw [h']; exact List.length_filter_le _ _
    have hGl : G.length ≤ pre.length + 1 := by have := groupsL_len by' pre; rw [← hmap, List.length_map] at this; exact this
    have hrise := rise_of hmap
    obtain ⟨GAd, gcap, rfl, hgcap⟩ := hG.slice
    have hbA : Below w.heap.size w A := hW.trans (hBW.mono hzw)
    have d1 : A.cell? ⟨b1, 0, none⟩ = some (.slice bA by'.length bc) := pw_cell_below hbA h1
    obtain ⟨kp, hkp⟩ := picked_f x by' (by omega)
    have hsn := groupsL_snoc by' pre x
    obtain ⟨P, hP⟩ : ∃ P, pickS x by' = P := ⟨_, rfl⟩
    rw [hP] at hkp hsn
    have HSN := Lib.hid hsn
    have HMAP := Lib.hid hmap
    clear hsn hP hmap
    obtain ⟨nG, hnG⟩ : ∃ nG, G.length = nG := ⟨_, rfl⟩
    have HNG := Lib.hid hnG
    rw [hnG] at hGl hgcap hG
    gi_wp2
    refine ⟨trivial, rfl, calls_in _ _ ((exec_picked.calls kp Ad c x bA bc by' P A hC hle (Kd.C_below hby hbA) hbc hkp).mono ?_)⟩
    rintro e W2 ⟨vk, rfl, hk, hb2⟩
    obtain ⟨KB, kc, rfl, hkle, hkC⟩ := Kd.R_reads hk
    have hG2 := hG.below hb2
    have e5 : W2.cell? ⟨W.heap.size, 0, none⟩ = some (.slice GAd nG gcap) := blk_cell hG2.box 0
    gi_wp2
    have hsr := searchG_any GAd G gcap P KB kc W2 (hG2.cells rfl) hG2.keyOk hkC hkle hrise (by omega)
    rw [hnG] at hsr
    clear hnG
    refine ⟨trivial, rfl, calls_in _ _ (hsr.mono ?_)⟩
    rintro e W3 ⟨i, b, rfl, hi, hlo, hhi, hbq, hb3⟩
    rw [HNG.out] at hi
    clear hsr
    have HLH := Lib.hid (And.intro hlo hhi)
    clear hlo hhi
    have hb3A : Below A.heap.size A W3 := hb2.trans (hb3.mono hb2.size)
    have hG3 := hG2.below hb3
    cases b with
    | true =>
      have hf : i < G.length ∧ ordK (G.getD i zGE).key P = 0 := of_decide_eq_true hbq.symm
      have hin : i < nG := by rw [← HNG.out]; exact hf.1
      have HF := Lib.hid hf
      clear hf hbq
      obtain ⟨ad, had⟩ : ∃ ad, GAd = some ad := by
        obtain ⟨ad, e, _⟩ := (hG3.cells rfl) i HF.out.1
        exact ⟨ad, e⟩
      subst had
      obtain ⟨n1, c1, G1, o1, M1, A1, hA1, hnn, hcc, hG1, hG1N, hglen1, hM1, hKA1, hC1, hset⟩ : ∃ (n1 c1 : Nat) (G1 : List GE) (o1 : Nat → Nat) (M1 : Nat → Prop) (A1 : World), A1 = W3 ∧ n1 = nG ∧ c1 = gcap ∧ GSt W.heap.size G1 (.slice (some ad) n1 c1) o1 M1 A1 ∧ G1.length = n1 ∧ (∀ g ∈ G1, g.rows.length ≤ pre.length) ∧ (∀ j, M1 j → M j ∨ A.heap.size ≤ j) ∧ Kpt M A A1 ∧ kS.C A1 Ad x.length x ∧
          (∀ g' : GE, g'.key = (G1.getD i zGE).key → g'.rows = (G1.getD i zGE).rows ++ [x] → (G1.set i g').map gp = addG (G.map gp) P x) :=
        ⟨_, _, G, o, M, W3, rfl, rfl, rfl, hG3, HNG.out, hglen, fun j h => .inl h, Kpt.of_new M hb3A, Kd.C_below hC hb3A, fun g' hk hr => found_map (by rw [HNG.out]; exact hi) HLH.out.1 HLH.out.2 HF.out hk hr⟩
      subst hA1 hnn hcc
      have HG1N := Lib.hid hG1N
      clear hG1N
      gi_wp2
      clear hG2 hG3 hglen hrise HLH HF HNG e5 d1 hk hkC
      have hi1z : (i : Int) < (n1 : Int) := by omega
      have hbase1 : W.heap.size ≤ A1.heap.size := Nat.le_of_lt (hG1.mlt _ hG1.mb).2
      obtain ⟨gb, gc1, gcur, hgvf, hgc1, hgbk, _, _⟩ := hG1.form (by rw [HG1N.out]; omega)
      injection hgvf with hgad hgn hgcc
      injection hgad with hgad
      obtain ⟨ad', had', k0, k1⟩ := (hG1.cells rfl) i (by rw [HG1N.out]; omega)
      injection had' with had'
      subst had'
      obtain ⟨g, hgd⟩ : ∃ g, G1.getD i zGE = g := ⟨_, rfl⟩
      have hgm : g ∈ G1 := by rw [← hgd]; exact getD_mem _ (by rw [HG1N.out]; omega)
      rw [hgd] at k0 k1
      have hRg := hG1.rows g hgm
      have htg := hG1.tag3 g hgm
      have hgl : g.rows.length ≤ pre.length := hglen1 g hgm
      have HGD := Lib.hid hgd
      have HFM := Lib.hid (And.intro hgad (And.intro hgn hgcc))
      clear hgd hgad hgn hgcc hgm
      obtain ⟨gkey, grows, gka, gkc, gra, grc, gtag⟩ := g
      simp only [GE.raw] at k0 k1 hRg hgl htg
      have HRG := Lib.hid hRg
      clear hRg
      have S0 : ∀ V : World, Below A1.heap.size A1 V → V.cell? ⟨W.heap.size, 0, none⟩ = some (.slice (some ad) n1 c1) ∧ V.cell? ⟨(ad.add (i * 2)).block, (ad.add (i * 2)).off + 1, none⟩ = some (.slice gra grows.length grc) ∧ V.frozen? ⟨(ad.add (i * 2)).block, (ad.add (i * 2)).off + 1, none⟩ = false :=
        fun V hV => ⟨blk_cell (blk_below hG1.box hV) 0, pw_cell_below hV k1, by
          have := blk_frozen (blk_below hgbk hV) (i * 2 + 1)
          rw [HFM.out.1, add_plain]; exact this⟩
      refine wpIn_region_R 13 (S := fun V => V.cell? ⟨W.heap.size, 0, none⟩ = some (.slice (some ad) n1 c1) ∧ V.cell? ⟨(ad.add (i * 2)).block, (ad.add (i * 2)).off + 1, none⟩ = some (.slice gra grows.length grc) ∧ V.frozen? ⟨(ad.add (i * 2)).block, (ad.add (i * 2)).off + 1, none⟩ = false) (by kernel_rfl) (S0 _ (below_drew (Below.refl _ _))) (fun hS0 => ?_)
      refine wpAnyR_take (i := 0) (oi := ⟨some 41, _, _, _, _, _⟩) (v := ?_) (by kernel_rfl) (by kernel_rfl) rfl (by kernel_rfl) (by kernel_rfl) (by kernel_rfl) (fun _ _ _ h => h) (Or.inl ⟨by rfl, ?_⟩) (by assumption) ?_
      rotate_left
      · intro w hSw; (try dsimp only at hSw); (try go_split_ands); go_simp; (try (with_reducible rfl))
      (try simp only [Act.put, List.setIfInBounds_toArray, List.set_cons_zero, List.set_cons_succ])
      refine wpAnyR_take (i := 1) (oi := ⟨some 42, _, _, _, _, _⟩) (v := ?_) (by kernel_rfl) (by kernel_rfl) rfl (by kernel_rfl) (by kernel_rfl) (by kernel_rfl) (fun _ _ _ h => h) (Or.inl ⟨by rfl, ?_⟩) (by assumption) ?_
      rotate_left
      · intro w hSw; (try dsimp only at hSw); (try go_split_ands); go_simp; (try (with_reducible rfl))
      (try simp only [Act.put, List.setIfInBounds_toArray, List.set_cons_zero, List.set_cons_succ])
      refine wpAnyR_take (i := 2) (oi := ⟨some 43, _, _, _, _, _⟩) (v := ?_) (by kernel_rfl) (by kernel_rfl) rfl (by kernel_rfl) (by kernel_rfl) (by kernel_rfl) (fun _ _ _ h => h) (Or.inl ⟨by rfl, ?_⟩) (by assumption) ?_
      rotate_left
      · intro w hSw; (try dsimp only at hSw); (try go_split_ands); go_simp; (try (with_reducible rfl))
      (try simp only [Act.put, List.setIfInBounds_toArray, List.set_cons_zero, List.set_cons_succ])
      refine wpAnyR_take (i := 3) (oi := ⟨some 44, _, _, _, _, _⟩) (v := ?_) (by kernel_rfl) (by kernel_rfl) rfl (by kernel_rfl) (by kernel_rfl) (by kernel_rfl) (fun _ _ _ h => h) (Or.inl ⟨by rfl, ?_⟩) (by assumption) ?_
      rotate_left
      · intro w hSw; (try dsimp only at hSw); (try go_split_ands); go_simp; (try (with_reducible rfl))
      (try simp only [Act.put, List.setIfInBounds_toArray, List.set_cons_zero, List.set_cons_succ])
      refine wpAnyR_take (i := 4) (oi := ⟨some 45, _, _, _, _, _⟩) (v := ?_) (by kernel_rfl) (by kernel_rfl) rfl (by kernel_rfl) (by kernel_rfl) (by kernel_rfl) (fun _ _ _ h => h) (Or.inl ⟨by rfl, ?_⟩) (by assumption) ?_
      rotate_left
      · intro w hSw; (try dsimp only at hSw); (try go_split_ands); go_simp; (try (with_reducible rfl))
      (try simp only [Act.put, List.setIfInBounds_toArray, List.set_cons_zero, List.set_cons_succ])
      refine wpAnyR_take (i := 5) (oi := ⟨some 46, _, _, _, _, _⟩) (v := ?_) (by kernel_rfl) (by kernel_rfl) rfl (by kernel_rfl) (by kernel_rfl) (by kernel_rfl) (fun _ _ _ h => h) (Or.inl ⟨by rfl, ?_⟩) (by assumption) ?_
      rotate_left
      · intro w hSw; (try dsimp only at hSw); (try go_split_ands); go_simp; (try (with_reducible rfl))
      (try simp only [Act.put, List.setIfInBounds_toArray, List.set_cons_zero, List.set_cons_succ])
      refine wpAnyR_take (i := 6) (oi := ⟨some 47, _, _, _, _, _⟩) (v := ?_) (by kernel_rfl) (by kernel_rfl) rfl (by kernel_rfl) (by kernel_rfl) (by kernel_rfl) (fun _ _ _ h => h) (Or.inl ⟨by rfl, ?_⟩) (by assumption) ?_
      rotate_left
      · intro w hSw; (try dsimp only at hSw); (try go_split_ands); go_simp; (try (with_reducible rfl))
      (try simp only [Act.put, List.setIfInBounds_toArray, List.set_cons_zero, List.set_cons_succ])
      refine wpAnyR_take (i := 7) (oi := ⟨some 48, _, _, _, _, _⟩) (v := ?_) (by kernel_rfl) (by kernel_rfl) rfl (by kernel_rfl) (by kernel_rfl) (by kernel_rfl) (fun _ _ _ h => h) (Or.inl ⟨by rfl, ?_⟩) (by assumption) ?_
      rotate_left
      · intro w hSw; (try dsimp only at hSw); (try go_split_ands); go_simp; (try (with_reducible rfl))
      (try simp only [Act.put, List.setIfInBounds_toArray, List.set_cons_zero, List.set_cons_succ])
      refine wpAnyR_one (i := 8) (o := ⟨some 49, _, _, _, _, _⟩) (by kernel_rfl) (by kernel_rfl) rfl (fun K hK => ?_)
      go_simp
      refine (clone_any Ad x c A1.drew (Kd.C_drew hC1) hle (by omega)).mono ?_
      rintro e W4 ⟨v1, rfl, hR1, hb4⟩
      have hb4A : Below A1.heap.size A1 W4 := (below_drew (Below.refl _ A1)).trans hb4
      (try dsimp only)
      refine hK.out _ _ (.inr (S0 _ hb4A)) ?_
      clear hK K
      (try simp only [Act.put, List.setIfInBounds_toArray, List.set_cons_zero, List.set_cons_succ])
      obtain ⟨X1, x1c, rfl, hle1, hCx1⟩ := Kd.R_reads hR1
      refine wpAnyR_one (i := 9) (o := ⟨some 50, _, _, _, _, _⟩) (by kernel_rfl) (by kernel_rfl) rfl (fun K hK => ?_)
      go_simp
      refine hK.out _ _ (.inr (S0 _ (below_alloc hb4A _))) ?_
      clear hK K
      (try simp only [Act.put, List.setIfInBounds_toArray, List.set_cons_zero, List.set_cons_succ])
      refine wpAnyR_one (i := 10) (o := ⟨some 51, _, _, _, _, _⟩) (by kernel_rfl) (by kernel_rfl) rfl (fun K hK => ?_)
      have hzA4 : A1.heap.size ≤ W4.heap.size := hb4A.size
      refine Kd.R_append_step kRows (w0 := A1) W.heap.size (by rfl) (.tmp 47) (.tmp 50) 22 31 _ 24 rfl Try.underlying22 infoRow rfl (by decide) (by decide) (.slice gra grows.length grc) grows x [.slice X1 x.length x1c]
        (fun k => (M1 k ∧ o1 k = gtag) ∨ A1.heap.size ≤ k) (fun k => (Value.slice X1 x.length x1c).ownBlock = some k) rfl rfl ⟨_, rfl, RS_ok (Kd.R_lower hR1 (by show W.heap.size ≤ A1.heap.size; omega)) (fun _ h => h)⟩ ?_ (fun k hk => .inr (by omega)) ?_ (hb4A.mono (by omega)) (by omega) (by omega) ?_
      · intro k hk
        have := Kd.R_base hR1 k hk
        exact ⟨.inr this, fun e => by have h2 := Kd.R_lt HRG.out k e.symm; exact absurd this (by show ¬ A1.heap.size ≤ k; omega)⟩
      · exact Kd.R_mono (Kd.R_below HRG.out hb4A) (fun k hk => .inl hk)
      intro v2 W5 hS2 hB2 hg2 hat2
      obtain ⟨g2, cap2, rfl, hg2b, hg2l, cells2, hcells2⟩ := Kd.R_form hS2 (by simp)
      have hown : ∀ j, (Value.slice gra grows.length grc).ownBlock = some j → M1 j ∧ o1 j = gtag := HRG.out.1
      have hbx5 := blk_grown (blk_below hG1.box hb4A) hg2 (fun e => by have h3 := (hown W.heap.size e.symm).2; have h5 := hG1.ob; omega)
      have hgb5 := blk_grown (blk_below hgbk hb4A) hg2 (fun e => by have h3 := (hown gb e.symm).2; have h5 := (hG1.gown gb (by rw [HFM.out.1]; rfl)).2; omega)
      have hS05 : W5.cell? ⟨W.heap.size, 0, none⟩ = some (.slice (some ad) n1 c1) ∧ W5.cell? ⟨(ad.add (i * 2)).block, (ad.add (i * 2)).off + 1, none⟩ = some (.slice gra grows.length grc) ∧ W5.frozen? ⟨(ad.add (i * 2)).block, (ad.add (i * 2)).off + 1, none⟩ = false :=
        ⟨blk_cell hbx5 0, by
          have h4 := (S0 _ hb4A).2.1
          rw [HFM.out.1, add_plain] at h4 ⊢
          show W5.cell? ⟨gb, i * 2 + 1, none⟩ = _
          rw [blk_cell hgb5, ← blk_cell (blk_below hgbk hb4A)]; exact h4, by
          rw [HFM.out.1, add_plain]; exact blk_frozen hgb5 (i * 2 + 1)⟩
      refine hK.out _ _ (.inr hS05) ?_
      clear hK K
      (try simp only [Act.put, List.setIfInBounds_toArray, List.set_cons_zero, List.set_cons_succ])
      refine wpAnyR_one (i := 11) (o := ⟨some 52, _, _, _, _, _⟩) (by kernel_rfl) (by kernel_rfl) rfl (fun K hK => ?_)
      go_simp
      refine hK.out _ _ (.inr hS05) ?_
      clear hK K
      (try simp only [Act.put, List.setIfInBounds_toArray, List.set_cons_zero, List.set_cons_succ])
      refine wpAnyR_one (i := 12) (o := ⟨some 53, _, _, _, _, _⟩) (by kernel_rfl) (by kernel_rfl) rfl (fun K hK => ?_)
      go_simp
      refine hK.out _ _ (.inr hS05) ?_
      clear hK K
      (try simp only [Act.put, List.setIfInBounds_toArray, List.set_cons_zero, List.set_cons_succ])
      have hcg := hS05.2.1
      have hfg := hS05.2.2
      refine wpAnyR_one (i := 13) (o := ⟨none, _, _, _, _, _⟩) (by kernel_rfl) (by kernel_rfl) rfl (fun K hK => ?_)
      go_simp
      refine hK.out _ _ (.inl rfl) ?_
      clear hK K
      (try simp only [Act.put, List.setIfInBounds_toArray, List.set_cons_zero, List.set_cons_succ])
      refine wpAnyR_done (by kernel_rfl) ?_ _
      gi_wp2
      have happ := hG1.append hb4A i (by rw [HG1N.out]; omega) x (some ⟨g2, 0, none⟩) cap2 gb gc1 (by rw [HFM.out.1, HFM.out.2.1, HFM.out.2.2]) (by rw [HGD.out]; exact hS2) (by rw [HGD.out]; exact hg2)
      rw [HGD.out] at happ
      obtain ⟨g', hgk, hgr, hG6, hK6⟩ := happ
      obtain ⟨W6, hW6⟩ : ∃ W6, W5.setCell ⟨gb, i * 2 + 1, none⟩ (.slice (some ⟨g2, 0, none⟩) (grows ++ [x]).length cap2) = W6 := ⟨_, rfl⟩
      have hW6' : W5.setCell ⟨(ad.add (i * 2)).block, (ad.add (i * 2)).off + 1, none⟩ (.slice (some ⟨g2, 0, none⟩) (grows.length + 1) cap2) = W6 := by
        rw [← hW6, HFM.out.1, add_plain, show (grows ++ [x]).length = grows.length + 1 by simp]
      rw [hW6] at hG6 hK6
      rw [hW6']
      have hKA6 : Kpt M A W6 := hKA1.trans hK6 (M := M) (fun j hj h => by
        rcases h with h | h
        · exact h
        · rcases hM1 j h with z | z
          · exact z
          · omega)
      refine ⟨fun j => (M1 j ∨ A1.heap.size ≤ j) ∧ j < W6.heap.size, fun j hj => ⟨by rcases hj.1 with h | h; exact (hM1 j h).elim .inl (fun z => .inr (.inr z)); exact .inr (.inr (by have := hKA1.size; omega)), hj.2⟩, hKA6.mono (fun _ _ h => .inl h), _, _, _, hG6, ?_, hBW.trans (hKA6.below hBW.size (fun j _ h => (hG.mlt j h).1))⟩
      rw [HSN.out, ← HMAP.out]
      exact hset g' (by rw [hgk, HGD.out]) (by rw [hgr, HGD.out])
    | false =>
      have hf : ¬ (i < G.length ∧ ordK (G.getD i zGE).key P = 0) := of_decide_eq_false hbq.symm
      have HF := Lib.hid hf
      clear hf hbq
      have e53 : W3.cell? ⟨W.heap.size, 0, none⟩ = some (.slice GAd nG gcap) := blk_cell hG3.box 0
      gi_wp2
      obtain ⟨WB, hWB⟩ : ∃ WB, W3.alloc (.cells #[.slice KB P.length kc, .slice none 0 0] 65) = WB := ⟨_, rfl⟩
      have hbB : Below W3.heap.size W3 WB := by rw [← hWB]; exact below_alloc (Below.refl _ _) _
      have hvb : WB.heap[W3.heap.size]? = some (.cells #[.slice KB P.length kc, .slice none 0 0] tG (0, 0)) := by rw [← hWB]; exact blk_new _ _
      have hzB : WB.heap.size = W3.heap.size + 1 := by rw [← hWB]; simp
      rw [hWB]
      clear hWB
      have hABB : Below A.heap.size A WB := hb3A.trans (hbB.mono hb3A.size)
      have hGB := hG3.below hbB
      have hins := insert_any W.heap.size (.slice GAd nG gcap) (G.map GE.raw) i (.slice KB P.length kc, .slice none 0 0) W3.heap.size WB hGB.ga hvb ⟨rfl, rfl⟩ (fun e => by have := (hG3.mlt _ (hG3.gown W3.heap.size e.symm).1).2; omega) (by have := hBW.size; have := hABB.size; omega) (by rw [List.length_map, HNG.out]; omega) (by rw [List.length_map, HNG.out]; exact hi)
      refine ⟨trivial, rfl, calls_in _ _ (hins.mono ?_)⟩
      rintro e WC ⟨v', rfl, hGA', hgr', hat'⟩
      clear hins
      have hxC := blk_grown hGB.box hgr' (fun e => by have h3 := (hGB.gown W.heap.size e.symm).2; have := hGB.ob; omega)
      have hcb1 := blk_cell hxC 0
      have hcb2 := blk_frozen hxC 0
      obtain ⟨t, ht3, htf⟩ := fresh_tag G
      obtain ⟨hGst, hKst⟩ := hG.insert hABB i P KB kc v' t ht3 htf (Kd.R_below (Kd.R_below hk hb3) hbB) hGA' hgr' hat'
      have hl1 : (G.take i ++ (⟨P, [], KB, kc, none, 0, t⟩ : GE) :: G.drop i).length = nG + 1 := by
        rw [List.length_append, List.length_take, List.length_cons, List.length_drop, HNG.out]; omega
      have hget1 : (G.take i ++ (⟨P, [], KB, kc, none, 0, t⟩ : GE) :: G.drop i).getD i zGE = ⟨P, [], KB, kc, none, 0, t⟩ := by
        have hl : (G.take i).length = i := by rw [List.length_take, HNG.out]; omega
        rw [List.getD_eq_getElem?_getD, List.getElem?_append_right (by omega), hl, Nat.sub_self]; rfl
      have hglen2 : ∀ g ∈ (G.take i ++ (⟨P, [], KB, kc, none, 0, t⟩ : GE) :: G.drop i), g.rows.length ≤ pre.length := fun g hg => by
        rcases List.mem_append.1 hg with h | h
        · exact hglen g (List.mem_of_mem_take h)
        · rcases List.mem_cons.1 h with rfl | h
          · simp
          · exact hglen g (List.mem_of_mem_drop h)
      obtain ⟨A1c, n1c, hv'⟩ : ∃ A c, v' = .slice A (nG + 1) c := by
        obtain ⟨A', c', e⟩ := hGst.slice
        rw [hl1] at e
        exact ⟨A', c', e.1⟩
      subst hv'
      obtain ⟨ad, had⟩ : ∃ ad, A1c = some ad := by
        obtain ⟨ad, e, _⟩ := (hGst.cells rfl) i (by rw [hl1]; omega)
        exact ⟨ad, e⟩
      subst had
      have hrd1 := hkR _ _ _ _ _ hrd (hKst.mono (fun j hj h => ⟨by have := (hG.mlt j h).1; omega, fun hNj => (hN j hNj).2.2 h⟩))
      obtain ⟨Ad', c', hvv', _, hC1o⟩ := hrR _ _ _ _ hrd1
      obtain ⟨rfl, rfl⟩ : Ad = Ad' ∧ c = c' := by simpa using hvv'
      clear hvv' hrd1
      obtain ⟨n1, c1, G1, o1, M1, A1, hA1, hnn, hcc, hG1, hG1N, hglen1, hM1, hKA1, hC1, hset⟩ : ∃ (n1 c1 : Nat) (G1 : List GE) (o1 : Nat → Nat) (M1 : Nat → Prop) (A1 : World), WC.setCell ⟨W.heap.size, 0, none⟩ (.slice (some ad) (nG + 1) n1c) = A1 ∧ nG + 1 = n1 ∧ c1 = n1c ∧ GSt W.heap.size G1 (.slice (some ad) n1 c1) o1 M1 A1 ∧ G1.length = n1 ∧ (∀ g ∈ G1, g.rows.length ≤ pre.length) ∧ (∀ j, M1 j → M j ∨ A.heap.size ≤ j) ∧ Kpt M A A1 ∧ kS.C A1 Ad x.length x ∧
          (∀ g' : GE, g'.key = (G1.getD i zGE).key → g'.rows = (G1.getD i zGE).rows ++ [x] → (G1.set i g').map gp = addG (G.map gp) P x) :=
        ⟨_, _, _, _, _, _, rfl, rfl, rfl, hGst, hl1, hglen2, fun j h => h.1, hKst, hC1o, fun g' hk hr => fresh_map (by rw [HNG.out]; exact hi) HLH.out.1 HLH.out.2 HF.out (by rw [hk, hget1]) (by rw [hr, hget1]; rfl)⟩
      have HA1 := Lib.hid hA1
      have HNN := Lib.hid hnn
      clear hA1 hnn
      gi_wp2
      rw [HA1.out, HNN.out]
      have hnn := HNN.out
      clear hC1o
      subst hcc
      have hin : i < n1 := by omega
      have HG1N := Lib.hid hG1N
      clear hnn hG1N hG2 hG3 hGB hGst hKst hglen hglen2 hrise HLH HF HNG e5 e53 d1 hk hkC hget1 hl1 hxC hcb1 hcb2 hGA' hgr' hat' hvb hzB
      have hi1z : (i : Int) < (n1 : Int) := by omega
      have hbase1 : W.heap.size ≤ A1.heap.size := Nat.le_of_lt (hG1.mlt _ hG1.mb).2
      obtain ⟨gb, gc1, gcur, hgvf, hgc1, hgbk, _, _⟩ := hG1.form (by rw [HG1N.out]; omega)
      injection hgvf with hgad hgn hgcc
      injection hgad with hgad
      obtain ⟨ad', had', k0, k1⟩ := (hG1.cells rfl) i (by rw [HG1N.out]; omega)
      injection had' with had'
      subst had'
      obtain ⟨g, hgd⟩ : ∃ g, G1.getD i zGE = g := ⟨_, rfl⟩
      have hgm : g ∈ G1 := by rw [← hgd]; exact getD_mem _ (by rw [HG1N.out]; omega)
      rw [hgd] at k0 k1
      have hRg := hG1.rows g hgm
      have htg := hG1.tag3 g hgm
      have hgl : g.rows.length ≤ pre.length := hglen1 g hgm
      have HGD := Lib.hid hgd
      have HFM := Lib.hid (And.intro hgad (And.intro hgn hgcc))
      clear hgd hgad hgn hgcc hgm
      obtain ⟨gkey, grows, gka, gkc, gra, grc, gtag⟩ := g
      simp only [GE.raw] at k0 k1 hRg hgl htg
      have HRG := Lib.hid hRg
      clear hRg
      have S0 : ∀ V : World, Below A1.heap.size A1 V → V.cell? ⟨W.heap.size, 0, none⟩ = some (.slice (some ad) n1 c1) ∧ V.cell? ⟨(ad.add (i * 2)).block, (ad.add (i * 2)).off + 1, none⟩ = some (.slice gra grows.length grc) ∧ V.frozen? ⟨(ad.add (i * 2)).block, (ad.add (i * 2)).off + 1, none⟩ = false :=
        fun V hV => ⟨blk_cell (blk_below hG1.box hV) 0, pw_cell_below hV k1, by
          have := blk_frozen (blk_below hgbk hV) (i * 2 + 1)
          rw [HFM.out.1, add_plain]; exact this⟩
      refine wpIn_region_R 13 (S := fun V => V.cell? ⟨W.heap.size, 0, none⟩ = some (.slice (some ad) n1 c1) ∧ V.cell? ⟨(ad.add (i * 2)).block, (ad.add (i * 2)).off + 1, none⟩ = some (.slice gra grows.length grc) ∧ V.frozen? ⟨(ad.add (i * 2)).block, (ad.add (i * 2)).off + 1, none⟩ = false) (by kernel_rfl) (S0 _ (below_drew (Below.refl _ _))) (fun hS0 => ?_)
      refine wpAnyR_take (i := 0) (oi := ⟨some 41, _, _, _, _, _⟩) (v := ?_) (by kernel_rfl) (by kernel_rfl) rfl (by kernel_rfl) (by kernel_rfl) (by kernel_rfl) (fun _ _ _ h => h) (Or.inl ⟨by rfl, ?_⟩) (by assumption) ?_
      rotate_left
      · intro w hSw; (try dsimp only at hSw); (try go_split_ands); go_simp; (try (with_reducible rfl))
      (try simp only [Act.put, List.setIfInBounds_toArray, List.set_cons_zero, List.set_cons_succ])
      refine wpAnyR_take (i := 1) (oi := ⟨some 42, _, _, _, _, _⟩) (v := ?_) (by kernel_rfl) (by kernel_rfl) rfl (by kernel_rfl) (by kernel_rfl) (by kernel_rfl) (fun _ _ _ h => h) (Or.inl ⟨by rfl, ?_⟩) (by assumption) ?_
      rotate_left
      · intro w hSw; (try dsimp only at hSw); (try go_split_ands); go_simp; (try (with_reducible rfl))
      (try simp only [Act.put, List.setIfInBounds_toArray, List.set_cons_zero, List.set_cons_succ])
      refine wpAnyR_take (i := 2) (oi := ⟨some 43, _, _, _, _, _⟩) (v := ?_) (by kernel_rfl) (by kernel_rfl) rfl (by kernel_rfl) (by kernel_rfl) (by kernel_rfl) (fun _ _ _ h => h) (Or.inl ⟨by rfl, ?_⟩) (by assumption) ?_
      rotate_left
      · intro w hSw; (try dsimp only at hSw); (try go_split_ands); go_simp; (try (with_reducible rfl))
      (try simp only [Act.put, List.setIfInBounds_toArray, List.set_cons_zero, List.set_cons_succ])
      refine wpAnyR_take (i := 3) (oi := ⟨some 44, _, _, _, _, _⟩) (v := ?_) (by kernel_rfl) (by kernel_rfl) rfl (by kernel_rfl) (by kernel_rfl) (by kernel_rfl) (fun _ _ _ h => h) (Or.inl ⟨by rfl, ?_⟩) (by assumption) ?_
      rotate_left
      · intro w hSw; (try dsimp only at hSw); (try go_split_ands); go_simp; (try (with_reducible rfl))
      (try simp only [Act.put, List.setIfInBounds_toArray, List.set_cons_zero, List.set_cons_succ])
      refine wpAnyR_take (i := 4) (oi := ⟨some 45, _, _, _, _, _⟩) (v := ?_) (by kernel_rfl) (by kernel_rfl) rfl (by kernel_rfl) (by kernel_rfl) (by kernel_rfl) (fun _ _ _ h => h) (Or.inl ⟨by rfl, ?_⟩) (by assumption) ?_
      rotate_left
      · intro w hSw; (try dsimp only at hSw); (try go_split_ands); go_simp; (try (with_reducible rfl))
      (try simp only [Act.put, List.setIfInBounds_toArray, List.set_cons_zero, List.set_cons_succ])
      refine wpAnyR_take (i := 5) (oi := ⟨some 46, _, _, _, _, _⟩) (v := ?_) (by kernel_rfl) (by kernel_rfl) rfl (by kernel_rfl) (by kernel_rfl) (by kernel_rfl) (fun _ _ _ h => h) (Or.inl ⟨by rfl, ?_⟩) (by assumption) ?_
      rotate_left
      · intro w hSw; (try dsimp only at hSw); (try go_split_ands); go_simp; (try (with_reducible rfl))
      (try simp only [Act.put, List.setIfInBounds_toArray, List.set_cons_zero, List.set_cons_succ])
      refine wpAnyR_take (i := 6) (oi := ⟨some 47, _, _, _, _, _⟩) (v := ?_) (by kernel_rfl) (by kernel_rfl) rfl (by kernel_rfl) (by kernel_rfl) (by kernel_rfl) (fun _ _ _ h => h) (Or.inl ⟨by rfl, ?_⟩) (by assumption) ?_
      rotate_left
      · intro w hSw; (try dsimp only at hSw); (try go_split_ands); go_simp; (try (with_reducible rfl))
      (try simp only [Act.put, List.setIfInBounds_toArray, List.set_cons_zero, List.set_cons_succ])
      refine wpAnyR_take (i := 7) (oi := ⟨some 48, _, _, _, _, _⟩) (v := ?_) (by kernel_rfl) (by kernel_rfl) rfl (by kernel_rfl) (by kernel_rfl) (by kernel_rfl) (fun _ _ _ h => h) (Or.inl ⟨by rfl, ?_⟩) (by assumption) ?_
      rotate_left
      · intro w hSw; (try dsimp only at hSw); (try go_split_ands); go_simp; (try (with_reducible rfl))
      (try simp only [Act.put, List.setIfInBounds_toArray, List.set_cons_zero, List.set_cons_succ])
      refine wpAnyR_one (i := 8) (o := ⟨some 49, _, _, _, _, _⟩) (by kernel_rfl) (by kernel_rfl) rfl (fun K hK => ?_)
      go_simp
      refine (clone_any Ad x c A1.drew (Kd.C_drew hC1) hle (by omega)).mono ?_
      rintro e W4 ⟨v1, rfl, hR1, hb4⟩
      have hb4A : Below A1.heap.size A1 W4 := (below_drew (Below.refl _ A1)).trans hb4
      (try dsimp only)
      refine hK.out _ _ (.inr (S0 _ hb4A)) ?_
      clear hK K
      (try simp only [Act.put, List.setIfInBounds_toArray, List.set_cons_zero, List.set_cons_succ])
      obtain ⟨X1, x1c, rfl, hle1, hCx1⟩ := Kd.R_reads hR1
      refine wpAnyR_one (i := 9) (o := ⟨some 50, _, _, _, _, _⟩) (by kernel_rfl) (by kernel_rfl) rfl (fun K hK => ?_)
      go_simp
      refine hK.out _ _ (.inr (S0 _ (below_alloc hb4A _))) ?_
      clear hK K
      (try simp only [Act.put, List.setIfInBounds_toArray, List.set_cons_zero, List.set_cons_succ])
      refine wpAnyR_one (i := 10) (o := ⟨some 51, _, _, _, _, _⟩) (by kernel_rfl) (by kernel_rfl) rfl (fun K hK => ?_)
      have hzA4 : A1.heap.size ≤ W4.heap.size := hb4A.size
      refine Kd.R_append_step kRows (w0 := A1) W.heap.size (by rfl) (.tmp 47) (.tmp 50) 22 31 _ 24 rfl Try.underlying22 infoRow rfl (by decide) (by decide) (.slice gra grows.length grc) grows x [.slice X1 x.length x1c]
        (fun k => (M1 k ∧ o1 k = gtag) ∨ A1.heap.size ≤ k) (fun k => (Value.slice X1 x.length x1c).ownBlock = some k) rfl rfl ⟨_, rfl, RS_ok (Kd.R_lower hR1 (by show W.heap.size ≤ A1.heap.size; omega)) (fun _ h => h)⟩ ?_ (fun k hk => .inr (by omega)) ?_ (hb4A.mono (by omega)) (by omega) (by omega) ?_
      · intro k hk
        have := Kd.R_base hR1 k hk
        exact ⟨.inr this, fun e => by have h2 := Kd.R_lt HRG.out k e.symm; exact absurd this (by show ¬ A1.heap.size ≤ k; omega)⟩
      · exact Kd.R_mono (Kd.R_below HRG.out hb4A) (fun k hk => .inl hk)
      intro v2 W5 hS2 hB2 hg2 hat2
      obtain ⟨g2, cap2, rfl, hg2b, hg2l, cells2, hcells2⟩ := Kd.R_form hS2 (by simp)
      have hown : ∀ j, (Value.slice gra grows.length grc).ownBlock = some j → M1 j ∧ o1 j = gtag := HRG.out.1
      have hbx5 := blk_grown (blk_below hG1.box hb4A) hg2 (fun e => by have h3 := (hown W.heap.size e.symm).2; have h5 := hG1.ob; omega)
      have hgb5 := blk_grown (blk_below hgbk hb4A) hg2 (fun e => by have h3 := (hown gb e.symm).2; have h5 := (hG1.gown gb (by rw [HFM.out.1]; rfl)).2; omega)
      have hS05 : W5.cell? ⟨W.heap.size, 0, none⟩ = some (.slice (some ad) n1 c1) ∧ W5.cell? ⟨(ad.add (i * 2)).block, (ad.add (i * 2)).off + 1, none⟩ = some (.slice gra grows.length grc) ∧ W5.frozen? ⟨(ad.add (i * 2)).block, (ad.add (i * 2)).off + 1, none⟩ = false :=
        ⟨blk_cell hbx5 0, by
          have h4 := (S0 _ hb4A).2.1
          rw [HFM.out.1, add_plain] at h4 ⊢
          show W5.cell? ⟨gb, i * 2 + 1, none⟩ = _
          rw [blk_cell hgb5, ← blk_cell (blk_below hgbk hb4A)]; exact h4, by
          rw [HFM.out.1, add_plain]; exact blk_frozen hgb5 (i * 2 + 1)⟩
      refine hK.out _ _ (.inr hS05) ?_
      clear hK K
      (try simp only [Act.put, List.setIfInBounds_toArray, List.set_cons_zero, List.set_cons_succ])
      refine wpAnyR_one (i := 11) (o := ⟨some 52, _, _, _, _, _⟩) (by kernel_rfl) (by kernel_rfl) rfl (fun K hK => ?_)
      go_simp
      refine hK.out _ _ (.inr hS05) ?_
      clear hK K
      (try simp only [Act.put, List.setIfInBounds_toArray, List.set_cons_zero, List.set_cons_succ])
      refine wpAnyR_one (i := 12) (o := ⟨some 53, _, _, _, _, _⟩) (by kernel_rfl) (by kernel_rfl) rfl (fun K hK => ?_)
      go_simp
      refine hK.out _ _ (.inr hS05) ?_
      clear hK K
      (try simp only [Act.put, List.setIfInBounds_toArray, List.set_cons_zero, List.set_cons_succ])
      have hcg := hS05.2.1
      have hfg := hS05.2.2
      refine wpAnyR_one (i := 13) (o := ⟨none, _, _, _, _, _⟩) (by kernel_rfl) (by kernel_rfl) rfl (fun K hK => ?_)
      go_simp
      refine hK.out _ _ (.inl rfl) ?_
      clear hK K
      (try simp only [Act.put, List.setIfInBounds_toArray, List.set_cons_zero, List.set_cons_succ])
      refine wpAnyR_done (by kernel_rfl) ?_ _
      gi_wp2
      have happ := hG1.append hb4A i (by rw [HG1N.out]; omega) x (some ⟨g2, 0, none⟩) cap2 gb gc1 (by rw [HFM.out.1, HFM.out.2.1, HFM.out.2.2]) (by rw [HGD.out]; exact hS2) (by rw [HGD.out]; exact hg2)
      rw [HGD.out] at happ
      obtain ⟨g', hgk, hgr, hG6, hK6⟩ := happ
      obtain ⟨W6, hW6⟩ : ∃ W6, W5.setCell ⟨gb, i * 2 + 1, none⟩ (.slice (some ⟨g2, 0, none⟩) (grows ++ [x]).length cap2) = W6 := ⟨_, rfl⟩
      have hW6' : W5.setCell ⟨(ad.add (i * 2)).block, (ad.add (i * 2)).off + 1, none⟩ (.slice (some ⟨g2, 0, none⟩) (grows.length + 1) cap2) = W6 := by
        rw [← hW6, HFM.out.1, add_plain, show (grows ++ [x]).length = grows.length + 1 by simp]
      rw [hW6] at hG6 hK6
      rw [hW6']
      have hKA6 : Kpt M A W6 := hKA1.trans hK6 (M := M) (fun j hj h => by
        rcases h with h | h
        · exact h
        · rcases hM1 j h with z | z
          · exact z
          · omega)
      refine ⟨fun j => (M1 j ∨ A1.heap.size ≤ j) ∧ j < W6.heap.size, fun j hj => ⟨by rcases hj.1 with h | h; exact (hM1 j h).elim .inl (fun z => .inr (.inr z)); exact .inr (.inr (by have := hKA1.size; omega)), hj.2⟩, hKA6.mono (fun _ _ h => .inl h), _, _, _, hG6, ?_, hBW.trans (hKA6.below hBW.size (fun j _ h => (hG.mlt j h).1))⟩
      rw [HSN.out, ← HMAP.out]
      exact hset g' (by rw [hgk, HGD.out]) (by rw [hgr, HGD.out])
  case done =>
    intro D W2 M' hI hk hM' hD hDw hDM
    obtain ⟨G, gv, o, hG, hmap, hBW⟩ := hI
    obtain ⟨GAd, gcap, rfl, hgcap⟩ := hG.slice
    have hbwW2 : Below w.heap.size w W2 := hW.trans (hBW.mono hzw)
    have hzW2 := hBW.size
    have hglen : ∀ g ∈ G, g.rows.length ≤ xs.length ∧ g.key.length ≤ by'.length := fun g hg => by
      have hm : gp g ∈ groupsL by' xs := by rw [← hmap]; exact List.mem_map_of_mem hg
      have h := (groupsL_inv by' xs).mine (gp g) hm
      have h' : g.rows = xs.filter (mineB by' g.key) := h
      exact ⟨by rw [h']; exact List.length_filter_le _ _, Nat.le_of_eq (groupsL_klen by' xs _ hm)⟩
    have hGl : G.length ≤ xs.length + 1 := by have := groupsL_len by' xs; rw [← hmap, List.length_map] at this; exact this
    have hnxt := fun k hk => groupL_take by' aggs xs G hmap k hk
    have hall : (groupL by' aggs xs).take G.length = groupL by' aggs xs := List.take_of_length_le (by unfold groupL; rw [← hmap]; simp)
    obtain ⟨nG, hnG⟩ : ∃ nG, G.length = nG := ⟨_, rfl⟩
    rw [hnG] at hGl hgcap hnxt hall hG
    have HNG := Lib.hid hnG
    have HNX := Lib.hid hnxt
    have HALL := Lib.hid hall
    clear hnG hnxt hall hmap
    have e5 : W2.cell? ⟨W.heap.size, 0, none⟩ = some (.slice GAd nG gcap) := blk_cell hG.box 0
    have hDW : W.heap.size ≤ D := by omega
    have hD2 : D < W2.heap.size := (Array.getElem?_eq_some_iff.1 hD).1
    gi_wp2
    gi_loopw [56] (fun iv wr => ∃ (k : Nat) (Mh : Nat → Prop), iv = .int .i64 k ∧ k ≤ nG ∧ J3 J Mc (fun _ => False) W W2 ((groupL by' aggs xs).take k) Mh wr) (fun iv _ => nG - (intOf iv).toNat)
    case atStart => exact ⟨0, _, rfl, Nat.zero_le _, Mc, by simpa using hJ _ _ _ _ h0 (Kpt.of_new _ hBW), fun i => Iff.rfl, fun i hi => ⟨.inl hi, by have := hMcW i hi; omega⟩, Kpt.refl _ _⟩
    case round =>
      obtain ⟨k, Mh, rfl, hkn, hJ3⟩ := hrel
      obtain ⟨WR, rfl⟩ : ∃ WR, WR = wr := ⟨_, rfl⟩
      have hKr : Kpt (fun i => Mc i ∨ False) W2 WR := by obtain ⟨_, _, _, _, h⟩ := hJ3; exact h
      have hGr : GSt W.heap.size G (.slice GAd nG gcap) o M' WR := hG.kept hKr.size (fun j hj => hKr.block j (hG.mlt j hj).2 (fun h => by rcases h with h | h; have := hMcW j h; have := (hG.mlt j hj).1; omega; exact h))
      have hbwr : Below w.heap.size w WR := hbwW2.trans (hJ3.below (fun i h => (hMc i h).1) (fun _ h => h.elim) hbwW2.size)
      have hzr := hKr.size
      have hDk : WR.heap[D]? = some (.deferred (some [])) := hKr.at hD (fun h => by rcases h with h | h; have := hMcW D h; omega; exact h)
      by_cases hlt : k < nG
      · have hltz : (k : Int) < (nG : Int) := by omega
        obtain ⟨ad, rfl, c0, c1⟩ := (hGr.cells rfl) k (by rw [HNG.out]; omega)
        obtain ⟨g, hgd⟩ : ∃ g, G.getD k zGE = g := ⟨_, rfl⟩
        have hgm : g ∈ G := by rw [← hgd]; exact getD_mem _ (by rw [HNG.out]; omega)
        have hnx := HNX.out k hlt
        rw [hgd] at c0 c1 hnx
        obtain ⟨hkl, hkC⟩ := hGr.keyOk g hgm
        obtain ⟨_, hrl, hrC⟩ := Kd.R_reads' (hGr.rows g hgm)
        have hgl := hglen g hgm
        clear hgd hgm
        obtain ⟨gkey, grows, gka, gkc, gra, grc, gtag⟩ := g
        simp only [GE.raw] at c0 c1 hnx hkl hkC hrl hrC hgl
        have HNY := Lib.hid hnx
        clear hnx
        obtain ⟨W3, hW3⟩ : ∃ W3, WR.alloc (.cells #[.slice gka gkey.length gkc, .slice gra grows.length grc] 65) = W3 := ⟨_, rfl⟩
        have hb3 : Below WR.heap.size WR W3 := by rw [← hW3]; exact below_alloc (Below.refl _ _) _
        have hx11 : W3.heap[WR.heap.size]? = some (.cells #[.slice gka gkey.length gkc, .slice gra grows.length grc] 65 (0, 0)) := by rw [← hW3]; exact blk_new _ _
        have q60 := blk_cell hx11 0
        gi_wp2
        refine ⟨trivial, rfl, callsIn_wide.2 ?_⟩
        refine (clone_any gka gkey gkc W3 (Kd.C_below hkC hb3) hkl (by omega)).mono ?_
        rintro e W4 ⟨vo, rfl, hRo, hb4⟩
        clear hW3
        have hb4r : Below WR.heap.size WR W4 := hb3.trans (hb4.mono hb3.size)
        have hbw4 : Below w.heap.size w W4 := hbwr.trans (hb4r.mono hbwr.size)
        have d3 : W4.cell? ⟨b3, 0, none⟩ = some (.slice gA aggs.length gc) := pw_cell_below hbw4 h3
        have hx14 := blk_below hx11 hb4
        obtain ⟨OA, oc, rfl⟩ := Kd.R_slice hRo
        have hRo' : kS.R tS W4 WR.heap.size (fun k => k ≠ WR.heap.size) (.slice OA gkey.length oc) gkey := Kd.R_mono (Kd.R_lower (Kd.R_bound hRo) hb3.size) (fun k hk => by have := hk.2.1; have := blk_lt hx11; omega)
        have hz4 := hb4r.size
        clear hRo hkC q60 c0 c1
        gi_wp2
        gi_loopw [12, 65] (fun out i V => ∃ j : Nat, i = .int .i64 j ∧ j ≤ aggs.length ∧ kS.R tS V WR.heap.size (fun k => k ≠ WR.heap.size) out (gkey ++ (aggs.take j).map (fun a => toldS a grows)) ∧ Below WR.heap.size WR V ∧ V.heap[WR.heap.size]? = some (.cells #[.slice gka gkey.length gkc, .slice gra grows.length grc] 65 (0, 0))) (fun _ i _ => aggs.length - (intOf i).toNat)
        case atStart => exact ⟨0, rfl, Nat.zero_le _, by simpa using hRo', hb4r, hx14⟩
        case round =>
          obtain ⟨j, rfl, hja, hRj, hBj, hxj⟩ := hrel
          have hbwj : Below w.heap.size w wr := hbwr.trans (hBj.mono hbwr.size)
          by_cases hjl : j < aggs.length
          · refine wpIn_wide.2 ?_
            have hjz : (j : Int) < (aggs.length : Int) := by omega
            obtain ⟨ga, cs, rfl, _, hKa, hcs⟩ := Kd.C_get (Kd.C_below hag hbwj) z48 j (by omega) (by omega)
            have hop := k48_open hKa
            have hsz : kA.sz = 2 := rfl
            have hro := rowOut_snoc gkey grows aggs j hjl
            rw [Int.toNat_natCast] at hop
            obtain ⟨ag, hagd⟩ : ∃ ag, aggs.getD j z48 = ag := ⟨_, rfl⟩
            rw [hagd] at hop hro
            have a0 := hcs 0 (.int .i64 ag.f0) (by rw [hop]; rfl)
            have a1 := hcs 1 (.int .i64 ag.f1) (by rw [hop]; rfl)
            rw [hsz, Int.toNat_natCast, Nat.add_zero] at a0
            rw [hsz, Int.toNat_natCast, add_field _ _ 1 (by omega)] at a1
            clear hcs hop hKa hagd
            obtain ⟨op, col⟩ := ag
            simp only at a0 a1
            have HRO := Lib.hid hro
            clear hro
            have f0 := blk_cell (blk_alloc hxj (.cells #[.int .i64 op, .int .i64 col] 48)) 0
            have f1 := blk_cell (blk_alloc hxj (.cells #[.int .i64 op, .int .i64 col] 48)) 1
            have hll : (gkey ++ (aggs.take j).map (fun a => toldS a grows)).length ≤ 2097152 := by rw [List.length_append, List.length_map, List.length_take]; omega
            generalize gkey ++ (aggs.take j).map (fun a => toldS a grows) = LL at *
            have HRJ := Lib.hid hRj
            clear hRj
            go_wp2_with fail
            refine (told_any gka gkey.length gkc gra grows grc op col _ (Kd.C_alloc (Kd.C_below hrC hBj) _) (by omega)).mono ?_
            rintro e W5 ⟨he, hb5⟩
            have hb5' : Below wr.heap.size wr W5 := (below_alloc (Below.refl _ _) _).trans (hb5.mono (by simp))
            have hRO := HRO.out
            generalize toldS ⟨op, col⟩ grows = y at he hRO
            obtain ⟨y0, y1, y2, y3⟩ := y
            have he' : e = .returned (.agg #[.int .i64 y0, .bool y1, .int .i64 y2, .string y3]) := he
            subst he'
            have HRO2 := Lib.hid hRO
            clear he hRO HRO
            have hB5 : Below WR.heap.size WR W5 := hBj.trans (hb5'.mono hBj.size)
            have hx5j := blk_below hxj hb5'
            have hz5 := hB5.size
            have hRj5 := Kd.R_below HRJ.out hb5'
            go_wp2_with (at_builtin; refine Kd.R_append kS (w0 := WR) WR.heap.size rfl (.tmp 69) (.tmp 73) 31 42 _ 40 rfl Try.underlying31 infoS rfl (by decide) (by decide) u12 LL ⟨y0, y1, y2, y3⟩ [.int .i64 y0, .bool y1, .int .i64 y2, .string y3] (fun k => k ≠ WR.heap.size) (fun _ => False) rfl rfl (k42_mkM _ _ _ _) (fun _ h => h.elim) (fun k hk => by have := blk_lt hx5j; omega) hRj5 hB5 hz5 (by omega) ?_; intro v1 w1 hv1 hB1 hg1 hat1; have hx6j := blk_grown hx5j hg1 (Kd.R_away hRj5 (fun k hk => hk)))
            go_roundw
            case rel => exact ⟨j + 1, by go_num, by omega, by rw [HRO2.out]; exact hv1, hB1, hx6j⟩
            case measure => simp [intOf]; omega
          · obtain rfl : j = aggs.length := by omega
            rw [List.take_length] at hRj
            have hpp : ((groupL by' aggs xs).take k ++ [gkey ++ aggs.map (fun a => toldS a grows)]) <+: groupL by' aggs xs := by rw [← HNY.out]; exact List.take_prefix _ _
            obtain ⟨fn, tmps, assign, body, hy, hRn⟩ := hJ3.yield hcons hzW2 hBj (Kd.R_mono hRj (fun _ _ => trivial)) hpp
            gi_wp2
            refine ⟨rfl, hRn.mono ?_⟩
            rintro e W9 ⟨M9, hM9, hk9, hk9', (⟨rfl, hJ9⟩ | ⟨rfl, hJ9⟩)⟩
            · gi_wp2
              go_roundw
              case rel => exact ⟨k + 1, M9, by go_num, by omega, by rw [HNY.out]; exact hJ9⟩
              case measure => simp [intOf]; omega
            · gi_wp2
              have hDk9 : W9.heap[D]? = some (.deferred (some [])) := by
                obtain ⟨_, _, _, _, h⟩ := hJ9
                exact h.at hD (fun h => by rcases h with h | h; have := hMcW D h; omega; exact h)
              refine ⟨by simp, .inl ⟨_, _, rfl, run_takeDeferred hDk9, ?_⟩⟩
              obtain ⟨M4, h41, h42, h43⟩ := hJ9.ends hJx hMcW (fun _ h => h.elim) hBW hDW (fun h => by omega) (o := .deferred none)
              exact ⟨_, results_none rfl _ _ _, ⟨_, rfl⟩, M4, h41, h42, .inr ⟨_, hpp, h43⟩⟩
      · obtain rfl : k = nG := by omega
        rw [HALL.out] at hJ3
        gi_wp2
        refine ⟨by simp, .inl ⟨_, _, rfl, run_takeDeferred hDk, ?_⟩⟩
        obtain ⟨M4, h41, h42, h43⟩ := hJ3.ends hJ hMcW (fun _ h => h.elim) hBW hDW (fun h => by omega) (o := .deferred none)
        exact ⟨_, results_none rfl _ _ _, ⟨_, rfl⟩, M4, h41, h42, .inl h43⟩
end Go.Proofs.Ytghblnldokpceaa.QV
/- exec.Group as a function. -/
namespace Go.Proofs.Ytghblnldokpceaa.QV
open Go.RowKit Go.Proofs.YtghblnldokpceaaW.PrintWords Go.Proofs.Ytghblnldokpceaa.SeqW Go.Shelf Go.Proofs.Ytghblnldokpceaa.Op
set_option linter.unusedVariables false
set_option linter.unusedSimpArgs false
attribute [local go_sem] Oper.semAt_some

set_option maxHeartbeats 1000000 in
theorem clone_ags (A : Option Addr) (l : List Ag) (c : Nat) (w : World) (hr : kA.C w A l.length l) (hc : l.length ≤ c) (hb : l.length * 16 ≤ 140737488355328) :
    Calls Try.prog 38 #[.slice A l.length c] w fun e w' => ∃ v, e = .returned v ∧ kA.R 48 w' w.heap.size (fun _ => True) v l ∧ Below w.heap.size w w' := by
  cases A with
  | none =>
    have hl : l = [] := by
      cases l with
      | nil => rfl
      | cons x l => obtain ⟨ad, e, _⟩ := hr.2.2 (by simp); cases e
    subst hl
    have hn := Lib.run_eql_slice_nil (P := Try.prog)
    go_enter Try.func38, Try.ntmps38
    go_wp2
    go_ret
    exact ⟨_, rfl, Kd.R_nil _ _ _ _ _, Below.refl _ _⟩
  | some ad => exact clone_aggs ad l c w hr hc hb
set_option maxHeartbeats 2000000 in
theorem group_is (xs : List Row) (by' : List Int) (aggs : List Ag) (bA : Option Addr) (bc : Nat) (gA : Option Addr) (gc : Nat) (sv : Value) (w : World) (hR : IsSeq w sv xs)
    (hby : kI.C w bA by'.length by') (hbc : by'.length ≤ bc) (hag : kA.C w gA aggs.length aggs) (hgc : aggs.length ≤ gc)
    (hb : ∀ x ∈ xs, x.length ≤ 1048576) (hn : xs.length ≤ 1048576) (hb1' : by'.length ≤ 1048576) (hb2'' : aggs.length ≤ 1048576) :
    Calls Try.prog 16 #[sv, .slice bA by'.length bc, .slice gA aggs.length gc] w fun e w' => ∃ v, e = .returned v ∧ IsOwn w' v (groupL by' aggs xs) ∧ Below w.heap.size w w' := by
  obtain ⟨gR, lbR, RdR, rfl, qR⟩ := hR
  have hR : IsSeq w (.func (.func gR) #[] lbR) xs := ⟨gR, lbR, RdR, rfl, qR⟩
  clear qR
  go_enter Try.func16, Try.ntmps16
  go_wp2_with fail
  obtain ⟨w1, hw1⟩ : ∃ w1, ((w.alloc (.cells #[.func (.func gR) #[] lbR] 28)).alloc (.cells #[.slice bA by'.length bc] 35)).alloc (.cells #[.slice gA aggs.length gc] 36) = w1 := ⟨_, rfl⟩
  rw [hw1]
  have hb1 : Below w.heap.size w w1 := by rw [← hw1]; exact below_alloc (below_alloc (below_alloc (Below.refl _ _) _) _) _
  have g0 : w1.heap[w.heap.size]? = some (.cells #[.func (.func gR) #[] lbR] 28 (0, 0)) := by rw [← hw1]; exact blk_alloc (blk_alloc (blk_new _ _) _) _
  have g1 : w1.heap[w.heap.size + 1]? = some (.cells #[.slice bA by'.length bc] 35 (0, 0)) := by
    have := blk_new (w.alloc (.cells #[.func (.func gR) #[] lbR] 28)) (.cells #[.slice bA by'.length bc] 35)
    rw [World.size_alloc] at this
    rw [← hw1]; exact blk_alloc this _
  have g2 : w1.heap[w.heap.size + 1 + 1]? = some (.cells #[.slice gA aggs.length gc] 36 (0, 0)) := by
    have := blk_new ((w.alloc (.cells #[.func (.func gR) #[] lbR] 28)).alloc (.cells #[.slice bA by'.length bc] 35)) (.cells #[.slice gA aggs.length gc] 36)
    rw [World.size_alloc, World.size_alloc] at this
    rw [← hw1]; exact this
  clear hw1
  have hz1 := blk_lt g2
  have S0 : ∀ V, Below w1.heap.size w1 V → V.cell? ⟨w.heap.size + 1 + 1, 0, none⟩ = some (.slice gA aggs.length gc) ∧ V.frozen? ⟨w.heap.size + 1, 0, none⟩ = false ∧ V.frozen? ⟨w.heap.size + 1 + 1, 0, none⟩ = false :=
    fun V hV => ⟨blk_cell (blk_below g2 hV) 0, blk_frozen (blk_below g1 hV) 0, blk_frozen (blk_below g2 hV) 0⟩
  refine (wpIn_wide (n := 0)).1 ?_
  refine wpIn_region_R (l := 0) 5 (S := fun V => V.cell? ⟨w.heap.size + 1 + 1, 0, none⟩ = some (.slice gA aggs.length gc) ∧ V.frozen? ⟨w.heap.size + 1, 0, none⟩ = false ∧ V.frozen? ⟨w.heap.size + 1 + 1, 0, none⟩ = false) (by kernel_rfl) (S0 _ (below_drew (Below.refl _ _))) (fun hS0 => ?_)
  have c01 : w1.drew.cell? ⟨w.heap.size + 1, 0, none⟩ = some (.slice bA by'.length bc) := blk_cell (blk_drew g1) 0
  refine wpAnyR_take (i := 2) (oi := ⟨some 9, _, _, _, _, _⟩) (v := ?_) (by kernel_rfl) (by kernel_rfl) rfl (by kernel_rfl) (by kernel_rfl) (by kernel_rfl) (fun _ _ _ h => h) (Or.inl ⟨by rfl, ?_⟩) (by assumption) ?_
  rotate_left
  · intro w hSw; (try dsimp only at hSw); (try go_split_ands); go_simp; (try (with_reducible rfl))
  (try simp only [Act.put, List.setIfInBounds_toArray, List.set_cons_zero, List.set_cons_succ])
  refine wpAnyR_one (i := 0) (o := ⟨some 7, _, _, _, _, _⟩) (by kernel_rfl) (by kernel_rfl) rfl (fun K hK => ?_)
  go_simp
  refine hK.out _ _ (.inr (S0 _ (below_drew (Below.refl _ _)))) ?_
  clear hK K
  (try simp only [Act.put, List.setIfInBounds_toArray, List.set_cons_zero, List.set_cons_succ])
  refine wpAnyR_one (i := 1) (o := ⟨some 8, _, _, _, _, _⟩) (by kernel_rfl) (by kernel_rfl) rfl (fun K hK => ?_)
  go_simp
  refine (clone_ints bA by' bc _ (Kd.C_drew (Kd.C_below hby hb1)) hbc (by omega)).mono ?_
  rintro e w2 ⟨v1, rfl, hR1, hb2⟩
  have hb2' : Below w1.heap.size w1 w2 := (below_drew (Below.refl _ w1)).trans hb2
  (try dsimp only)
  refine hK.out _ _ (.inr (S0 _ hb2')) ?_
  clear hK K
  (try simp only [Act.put, List.setIfInBounds_toArray, List.set_cons_zero, List.set_cons_succ])
  obtain ⟨A2, c2, rfl, hle2, hC2⟩ := Kd.R_reads hR1
  refine wpAnyR_one (i := 3) (o := ⟨some 10, _, _, _, _, _⟩) (by kernel_rfl) (by kernel_rfl) rfl (fun K hK => ?_)
  go_simp
  have hbw2 : Below w.heap.size w w2 := hb1.trans (hb2'.mono hb1.size)
  refine (clone_ags gA aggs gc _ (Kd.C_below hag hbw2) hgc (by omega)).mono ?_
  rintro e w3 ⟨v2, rfl, hR2, hb3⟩
  have hb3' : Below w1.heap.size w1 w3 := hb2'.trans (hb3.mono hb2'.size)
  (try dsimp only)
  have hS3 := S0 _ hb3'
  refine hK.out _ _ (.inr hS3) ?_
  clear hK K
  (try simp only [Act.put, List.setIfInBounds_toArray, List.set_cons_zero, List.set_cons_succ])
  obtain ⟨A3, c3, rfl, hle3, hC3⟩ := Kd.R_reads hR2
  have hC2' := Kd.C_below hC2 hb3
  obtain ⟨q2, q3, q4⟩ := hS3
  have q1 : w3.cell? ⟨w.heap.size + 1, 0, none⟩ = some (.slice bA by'.length bc) := blk_cell (blk_below g1 hb3') 0
  refine wpAnyR_one (i := 4) (o := ⟨none, _, _, _, _, _⟩) (by kernel_rfl) (by kernel_rfl) rfl (fun K hK => ?_)
  go_simp
  obtain ⟨w4, hw4⟩ : ∃ w4, w3.setCell ⟨w.heap.size + 1, 0, none⟩ (.slice A2 by'.length c2) = w4 := ⟨_, rfl⟩
  rw [hw4]
  have hk4 : Seq.Kpt (fun i => i = w.heap.size + 1) w3 w4 := by rw [← hw4]; exact Seq.Kpt.setCell w3 ⟨w.heap.size + 1, 0, none⟩ _
  have g14 : w4.heap[w.heap.size + 1]? = some (.cells #[.slice A2 by'.length c2] 35 (0, 0)) := by rw [← hw4]; simpa using blk_set (blk_below g1 hb3') 0 (.slice A2 by'.length c2)
  have g24 : w4.heap[w.heap.size + 1 + 1]? = some (.cells #[.slice gA aggs.length gc] 36 (0, 0)) := hk4.at (blk_below g2 hb3') (by omega)
  clear hw4
  refine hK.out _ _ (.inr ⟨blk_cell g24 0, blk_frozen g14 0, blk_frozen g24 0⟩) ?_
  clear hK K
  (try simp only [Act.put, List.setIfInBounds_toArray, List.set_cons_zero, List.set_cons_succ])
  have t1 := blk_cell g24 0
  have t2 := blk_frozen g24 0
  refine wpAnyR_one (i := 5) (o := ⟨none, _, _, _, _, _⟩) (by kernel_rfl) (by kernel_rfl) rfl (fun K hK => ?_)
  go_simp
  refine hK.out _ _ (.inl rfl) ?_
  clear hK K
  (try simp only [Act.put, List.setIfInBounds_toArray, List.set_cons_zero, List.set_cons_succ])
  refine wpAnyR_done (by kernel_rfl) ?_ _
  go_wp2
  go_ret
  obtain ⟨w5, hw5⟩ : ∃ w5, w4.setCell ⟨w.heap.size + 1 + 1, 0, none⟩ (.slice A3 aggs.length c3) = w5 := ⟨_, rfl⟩
  rw [hw5]
  have hk5 : Seq.Kpt (fun i => i = w.heap.size + 1 + 1) w4 w5 := by rw [← hw5]; exact Seq.Kpt.setCell w4 ⟨w.heap.size + 1 + 1, 0, none⟩ _
  have g25 : w5.heap[w.heap.size + 1 + 1]? = some (.cells #[.slice A3 aggs.length c3] 36 (0, 0)) := by rw [← hw5]; simpa using blk_set g24 0 (.slice A3 aggs.length c3)
  have g15 := hk5.at g14 (by omega)
  have g05 := hk5.at (hk4.at (blk_below g0 hb3') (by omega)) (by omega)
  have hK35 : Seq.Kpt (fun i => i = w.heap.size + 1 ∨ i = w.heap.size + 1 + 1) w3 w5 := hk4.trans hk5 (fun _ _ h => h)
  have hz2 := hb2'.size
  have hz3 := hb3'.size
  have hz12 : w1.heap.size ≤ w1.drew.heap.size := Nat.le_refl _
  have rd1 : kI.C w5 A2 by'.length by' := by
    have h := Kd.R_step (w1 := w5) (Kd.R_below (Kd.R_bound hR1) hb3) (fun k hk hl => hK35.block k hl (fun h => by have e1 := hk.2.1; have : w1.heap.size ≤ k := e1; omega))
    exact (Kd.R_reads' h).2.2
  have rd2 : kA.C w5 A3 aggs.length aggs := by
    have h := Kd.R_step (w1 := w5) (Kd.R_bound hR2) (fun k hk hl => hK35.block k hl (fun h => by have e1 := hk.2.1; omega))
    exact (Kd.R_reads' h).2.2
  have hB5 : Below w.heap.size w w5 := (hb1.trans (hb3'.mono hb1.size)).trans (hK35.below (by omega) (fun i _ h => by omega))
  refine ⟨_, rfl, ⟨_, _, rfl, fun args w => rfl, ?_⟩, hB5⟩
  by_cases hcase : by' = []
  · exact group_seq_nil by' aggs xs _ _ _ _ A2 c2 A3 c3 w5 (hR.later hB5) (blk_cell g15 0) (blk_cell g05 0) (blk_cell g25 0) rd1 hle2 rd2 hle3 hb hn hb1' hb2'' hcase
  · exact group_seq_cons by' aggs xs _ _ _ _ A2 c2 A3 c3 w5 (hR.later hB5) (blk_cell g15 0) (blk_cell g05 0) (blk_cell g25 0) rd1 hle2 rd2 hle3 hb hn hb1' hb2'' hcase
end Go.Proofs.Ytghblnldokpceaa.QV
/- hayloftlaw15.alive. -/
namespace Go.Proofs.Ytghblnldokpceaa.QV
open Go.RowKit Go.Proofs.YtghblnldokpceaaW.PrintWords Go.Proofs.Ytghblnldokpceaa.Seq Go.Shelf Go.Proofs.Ytghblnldokpceaa.Op
set_option linter.unusedVariables false
set_option linter.unusedSimpArgs false

theorem C_one {α : Type} (d : Kd α) (w : World) (g : Nat) (x : α) (cs : List Value) (hK : d.K w x cs) (hc : ∀ i u, cs[i]? = some u → w.cell? ⟨g, i, none⟩ = some u) : d.C w (some ⟨g, 0, none⟩) 1 [x] := by
  refine ⟨rfl, by decide, fun _ => ⟨_, rfl, fun j p hj => ?_⟩⟩
  match j with
  | 0 =>
    simp at hj
    subst hj
    exact ⟨cs, d.K_len hK, hK, fun i u hu => by
      have := hc i u hu
      by_cases h0 : i = 0
      · subst h0; simpa [Addr.add] using this
      · simpa [Addr.add, h0] using this⟩
  | j + 1 => simp at hj
theorem IsSeq.form {w : World} {sv : Value} {xs : List Row} (h : IsSeq w sv xs) : ∃ g lb, sv = .func (.func g) #[] lb := by
  obtain ⟨g, lb, _, h, _⟩ := h
  exact ⟨g, lb, h⟩
def row2 : Row := [⟨2, false, 2, ⟨#[]⟩⟩]
theorem join_row2 : joinL [row2] [row2] 0 0 = [row2 ++ row2] := by
  have h : cmpV (toV ⟨2, false, 2, ⟨#[]⟩⟩) (toV ⟨2, false, 2, ⟨#[]⟩⟩) = 0 := cmpV_self _
  simp [joinL, joinOne, nzB, hitB, atS, row2, h]
/-- What an iterator whose rows are its consumer's own gives, gathered. -/
theorem all_is (sv : Value) (xs : List Row) (w0 w : World) (h : IsOwn w0 sv xs) (hb0 : Below w0.heap.size w0 w) (hx : ∀ x ∈ xs, x.length * 40 ≤ 140737488351232) (hn : xs.length * 24 ≤ 140737488351232) :
    Calls Try.prog 18 #[sv] w fun e w' => ∃ v, e = .returned v ∧ Kd.S kRows tRow w' w.heap.size (fun _ => True) v xs ∧ Below w.heap.size w w' := by
  obtain ⟨g, lb, rfl, eg, hs⟩ := h
  exact all_any g lb xs w0 w eg hs hb0 hx hn

set_option maxRecDepth 100000 in
set_option maxHeartbeats 4000000 in
theorem aliveX_any (w : World) : Calls Try.prog 9 #[] w fun e w' => e = .returned (.bool true) ∧ Below w.heap.size w w' := by
  obtain ⟨kc, hkc⟩ := copied_f [row2] (by simp) (by simp [row2])
  have hj2 := join_row2
  go_enter Try.func9, Try.ntmps9
  go_wp2_with fail
  obtain ⟨w1, hw1⟩ : ∃ w1, (w.alloc (.cells #[.int .i64 2, .bool false, .int .i64 2, .string ⟨#[]⟩] 42)).alloc (.cells #[.slice (some ⟨w.heap.size, 0, none⟩) 1 1] 31) = w1 := ⟨_, rfl⟩
  rw [hw1]
  have hb1 : Below w.heap.size w w1 := by rw [← hw1]; exact below_alloc (below_alloc (Below.refl _ _) _) _
  have g0 : w1.heap[w.heap.size]? = some (.cells #[.int .i64 2, .bool false, .int .i64 2, .string ⟨#[]⟩] 42 (0, 0)) := by rw [← hw1]; exact blk_alloc (blk_new _ _) _
  have g1 : w1.heap[w.heap.size + 1]? = some (.cells #[.slice (some ⟨w.heap.size, 0, none⟩) 1 1] 31 (0, 0)) := by
    have := blk_new (w.alloc (.cells #[.int .i64 2, .bool false, .int .i64 2, .string ⟨#[]⟩] 42)) (.cells #[.slice (some ⟨w.heap.size, 0, none⟩) 1 1] 31)
    rw [World.size_alloc] at this
    rw [← hw1]; exact this
  clear hw1
  have hr0 : kS.C w1 (some ⟨w.heap.size, 0, none⟩) 1 row2 := C_one kS w1 w.heap.size _ _ (k42_mk w1 ⟨2, false, 2, ⟨#[]⟩⟩) (fun i u hu => by rw [blk_cell g0 i]; simpa using hu)
  have hr1 : kRows.C w1 (some ⟨w.heap.size + 1, 0, none⟩) [row2].length [row2] := C_one kRows w1 (w.heap.size + 1) row2 [.slice (some ⟨w.heap.size, 0, none⟩) row2.length 1] ⟨_, _, rfl, by simp [row2], hr0⟩ (fun i u hu => by rw [blk_cell g1 i]; simpa [row2] using hu)
  -- exec.Join
  refine (values_is _ [row2] 1 w1 hr1).mono ?_
  rintro e w2 ⟨v2, rfl, hs2, hb2⟩
  obtain ⟨f2, l2, rfl⟩ := hs2.form
  have hB2 := hb1.trans (hb2.mono hb1.size)
  go_wp2_with fail
  refine (hayloftlaw15_copied.calls kc _ 1 [row2] [row2] w2 (Kd.C_below hr1 hb2) (by simp) hkc).mono ?_
  rintro e w3 ⟨v3, rfl, hS3, hb3⟩
  have hB3 := hB2.trans (hb3.mono hB2.size)
  obtain ⟨A3, c3, rfl, hle3, hC3⟩ := Kd.S_reads hS3
  go_wp2_with fail
  refine (values_is A3 [row2] c3 w3 hC3).mono ?_
  rintro e w4 ⟨v4, rfl, hs4, hb4⟩
  obtain ⟨f4, l4, rfl⟩ := hs4.form
  have hB4 := hB3.trans (hb4.mono hB3.size)
  go_wp2_with fail
  refine (join_is [row2] [row2] 0 0 _ _ w4 ((hs2.later hb3).later hb4) hs4 (by simp [row2]) (by simp [row2]) (by simp)).mono ?_
  rintro e w5 ⟨v5, rfl, hs5, hb5⟩
  rw [hj2] at hs5
  obtain ⟨f5, l5, rfl⟩ := hs5.seq.form
  have hB5 := hB4.trans (hb5.mono hB4.size)
  go_wp2_with fail
  refine (all_is _ [row2 ++ row2] w5 w5 hs5 (Below.refl _ _) (by simp [row2]) (by simp)).mono ?_
  rintro e w6 ⟨v6, rfl, hS6, hb6⟩
  have hB6 := hB5.trans (hb6.mono hB5.size)
  obtain ⟨A6, c6, rfl, hle6, hC6⟩ := Kd.S_reads hS6
  go_wp2_with fail
  -- exec.Group
  have hb16 : Below w1.heap.size w1 w6 := (((hb2.trans (hb3.mono hb2.size)).trans (hb4.mono (by have := hb2.size; have := hb3.size; omega))).trans (hb5.mono (by have := hb2.size; have := hb3.size; have := hb4.size; omega))).trans (hb6.mono (by have := hb2.size; have := hb3.size; have := hb4.size; have := hb5.size; omega))
  refine (hayloftlaw15_copied.calls kc _ 1 [row2] [row2] w6 (Kd.C_below hr1 hb16) (by simp) hkc).mono ?_
  rintro e w7 ⟨v7, rfl, hS7, hb7⟩
  have hB7 := hB6.trans (hb7.mono hB6.size)
  obtain ⟨A7, c7, rfl, hle7, hC7⟩ := Kd.S_reads hS7
  go_wp2_with fail
  refine (values_is A7 [row2] c7 w7 hC7).mono ?_
  rintro e w8 ⟨v8, rfl, hs8, hb8⟩
  obtain ⟨f8, l8, rfl⟩ := hs8.form
  have hB8 := hB7.trans (hb8.mono hB7.size)
  go_wp2_with fail
  obtain ⟨w9, hw9⟩ : ∃ w9, w8.alloc (.cells #[.int .i64 0, .int .i64 0] 48) = w9 := ⟨_, rfl⟩
  rw [hw9]
  have hb9 : Below w8.heap.size w8 w9 := by rw [← hw9]; exact below_alloc (Below.refl _ _) _
  have g9 : w9.heap[w8.heap.size]? = some (.cells #[.int .i64 0, .int .i64 0] 48 (0, 0)) := by rw [← hw9]; exact blk_new _ _
  clear hw9
  have hB9 := hB8.trans (hb9.mono hB8.size)
  refine (group_is1 row2 _ w8.heap.size w9 (hs8.later hb9) (blk_lt g9) (C_one kA w9 w8.heap.size ⟨0, 0⟩ _ (k48_mk w9 ⟨0, 0⟩) (fun i u hu => by rw [blk_cell g9 i]; simpa using hu)) (by simp [row2])).mono ?_
  rintro e w10 ⟨v10, rfl, hs10, hb10⟩
  obtain ⟨f10, l10, rfl⟩ := hs10.seq.form
  have hB10 := hB9.trans (hb10.mono hB9.size)
  go_wp2_with fail
  refine (all_is _ [one1] w10 w10 hs10 (Below.refl _ _) (by simp [one1]) (by simp)).mono ?_
  rintro e w11 ⟨v11, rfl, hS11, hb11⟩
  have hB11 := hB10.trans (hb11.mono hB10.size)
  obtain ⟨A11, c11, rfl, hle11, hC11⟩ := Kd.S_reads hS11
  have hb611 : Below w6.heap.size w6 w11 := ((((hb7.trans (hb8.mono hb7.size)).trans (hb9.mono (by have := hb7.size; have := hb8.size; omega))).trans (hb10.mono (by have := hb7.size; have := hb8.size; have := hb9.size; omega))).trans (hb11.mono (by have := hb7.size; have := hb8.size; have := hb9.size; have := hb10.size; omega)))
  obtain ⟨ad, cs, rfl, _, ⟨Ax, cx, rfl, hlex, hCx⟩, hcs⟩ := Kd.C_get (Kd.C_below hC6 hb611) [] 0 (by omega) (by simp)
  obtain ⟨am, cm, rfl, _, ⟨Ay, cy, rfl, hley, hCy⟩, hcm⟩ := Kd.C_get hC11 [] 0 (by omega) (by simp)
  obtain ⟨ay, cn, rfl, _, hKy, hcn⟩ := Kd.C_get hCy zV 0 (by omega) (by simp [one1])
  have hop := k42_open hKy
  have m0 := hcs 0 _ rfl
  have m1 := hcm 0 _ rfl
  have m2 := hcn 2 (.int .i64 1) (by rw [hop]; rfl)
  have z0 : ∀ a : Addr, a.add 0 = a := fun a => by cases a; simp [Addr.add]
  have m0' : w11.cell? ad = some (.slice Ax 2 cx) := by rw [← z0 ad]; exact m0
  have m1' : w11.cell? am = some (.slice (some ay) 1 cy) := by rw [← z0 am]; exact m1
  have m2' : w11.cell? ⟨ay.block, ay.off + 2, none⟩ = some (.int .i64 1) := by
    have := add_field ay 0 2 (by omega)
    rw [z0] at this
    rw [← this]; exact m2
  clear m0 m1 m2 hcs hcm hcn
  go_wp2_with fail
  go_ret
  exact ⟨rfl, hB11⟩
end Go.Proofs.Ytghblnldokpceaa.QV
/- hayloftref15.Group, walked: it tells the document's groups. -/
namespace Go.Proofs.Ytghblnldokpceaa.QV
open Go.RowKit Go.Proofs.YtghblnldokpceaaW.PrintWords Go.Proofs.Ytghblnldokpceaa.SeqW Go.Shelf Go.Proofs.Ytghblnldokpceaa.Op Go.Proofs.Ytghblnldokpceaa.Stab
set_option linter.unusedVariables false
set_option linter.unusedSimpArgs false
attribute [local go_sem] Oper.semAt_some
theorem heapS3 : Kd.Heap kS := Kd.heap_iso _ (Kd.heap_pair (Kd.heap_int _) (Kd.heap_pair Kd.heap_bool (Kd.heap_pair (Kd.heap_int _) Kd.heap_string)))
theorem kRows_at {w : World} {A : Option Addr} {xs : List Row} (h : kRows.C w A xs.length xs) (i : Nat) (hi : i < xs.length) : ∃ ad Ax cx, A = some ad ∧ w.cell? (ad.add i) = some (.slice Ax (xs.getD i []).length cx) ∧ (xs.getD i []).length ≤ cx ∧ kS.C w Ax (xs.getD i []).length (xs.getD i []) := by
  obtain ⟨ad, cs, e, _, ⟨Ad, cp, rfl, hle, hC⟩, hcs⟩ := Kd.C_get h [] i (by omega) (by omega)
  rw [Int.toNat_natCast] at hle hC hcs
  have hsz : kRows.sz = 1 := rfl
  have hc0 := hcs 0 _ rfl
  rw [hsz, Nat.mul_one, Nat.add_zero] at hc0
  exact ⟨ad, Ad, cp, e, hc0, hle, hC⟩
theorem kA_at {w : World} {A : Option Addr} {xs : List Ag} (h : kA.C w A xs.length xs) (i : Nat) (hi : i < xs.length) : ∃ ad, A = some ad ∧ w.cell? (ad.add (i * 2)) = some (.int .i64 (xs.getD i z48).f0) ∧ w.cell? ⟨(ad.add (i * 2)).block, (ad.add (i * 2)).off + 1, none⟩ = some (.int .i64 (xs.getD i z48).f1) := by
  obtain ⟨ad, cs, e, _, hK, hcs⟩ := Kd.C_get h z48 i (by omega) (by omega)
  rw [Int.toNat_natCast] at hK hcs
  obtain rfl := k48_open hK
  have hsz : kA.sz = 2 := rfl
  rw [hsz] at hcs
  exact ⟨ad, e, by simpa using hcs 0 _ rfl, by rw [← add_field _ _ 1 (by omega)]; exact hcs 1 _ rfl⟩
def rowOut (by' : List Int) (aggs : List Ag) (rows : List Row) (k : Row) : Row := k ++ aggs.map (fun a => toldS a (rows.filter (mineB by' k)))
set_option maxRecDepth 100000 in
set_option maxHeartbeats 8000000 in
theorem refGroup_any (A0 : Option Addr) (c0 : Nat) (rows : List Row) (A1 : Option Addr) (c1 : Nat) (by' : List Int) (A2 : Option Addr) (c2 : Nat) (aggs : List Ag) (w : World)
    (H0 : kRows.C w A0 rows.length rows) (C0 : rows.length ≤ c0) (H1 : kI.C w A1 by'.length by') (C1 : by'.length ≤ c1) (H2 : kA.C w A2 aggs.length aggs) (C2 : aggs.length ≤ c2)
    (n0 : rows.length ≤ 1048576) (n1 : by'.length ≤ 1048576) (n2 : aggs.length ≤ 1048576) :
    Calls Try.prog 17 #[.slice A0 rows.length c0, .slice A1 by'.length c1, .slice A2 aggs.length c2] w fun e w' => ∃ v, e = .returned v ∧ Kd.S kRows tRow w' w.heap.size (fun _ => True) v (groupL by' aggs rows) ∧ Below w.heap.size w w' := by
  obtain ⟨kk, hkk⟩ := keys_f rows by' (by omega) (by omega)
  have hkl := keysS_len by' rows
  have hKD := keysD_len by' rows
  have hKK := keysD_klen by' rows
  have hdoc := groupL_doc by' aggs rows
  obtain ⟨KS, hKS⟩ : ∃ KS, keysS by' rows = KS := ⟨_, rfl⟩
  obtain ⟨KL, hK0⟩ : ∃ KL, keysD by' rows = KL := ⟨_, rfl⟩
  have hKe : KL = if by' = [] then [[]] else KS := by rw [← hK0, ← hKS]; rfl
  rw [hKS] at hkk hkl
  rw [hK0] at hKD hKK hdoc
  have hdoc' : groupL by' aggs rows = KL.map (rowOut by' aggs rows) := hdoc
  have HDOC := Lib.hid hdoc'
  have HKE := Lib.hid hKe
  clear hdoc hdoc' hKe hK0 hKS
  go_enter Try.func17, Try.ntmps17
  go_wp2_with fail
  refine (hayloftref15_keys.calls kk A0 c0 rows A1 c1 by' KS w H0 C0 H1 C1 hkk).mono ?_
  rintro e w2 ⟨v2, rfl, hN2, hb2⟩
  obtain ⟨B2, m2, rfl⟩ := Kd.N_slice hN2
  obtain ⟨_, hle2, hC2⟩ := Kd.N_reads' hN2
  go_upto_if 19 with fail
  go_cut [7] from 18 to 20 (fun s7 wx => ∃ (B : Option Addr) (m : Nat), s7 = .slice B KL.length m ∧ KL.length ≤ m ∧ kRows.C wx B KL.length KL ∧ Below w.heap.size w wx)
  case first =>
    by_cases h0 : by' = []
    · have hlb : ((by'.length : Int) == 0) = true := by rw [h0]; rfl
      have hK1 : KL = [[]] := by rw [HKE.out, if_pos h0]
      go_wp2_with fail
      go_meet
      case rel =>
        refine ⟨some ⟨w2.heap.size, 0, none⟩, 1, by rw [hK1]; rfl, by rw [hK1]; exact Nat.le_refl _, ?_, below_alloc hb2 _⟩
        rw [hK1]
        exact C_one kRows _ w2.heap.size [] [.slice none 0 0] ⟨none, 0, rfl, Nat.le_refl _, C_nil _⟩ (fun i u hu => by rw [blk_cell (blk_new w2 _) i]; simpa using hu)
    · have hlb : ((by'.length : Int) == 0) = false := by
        cases by' with
        | nil => exact absurd rfl h0
        | cons a l => simp; omega
      have hK1 : KL = KS := by rw [HKE.out, if_neg h0]
      go_wp2_with fail
      go_meet
      case rel => exact ⟨B2, m2, by rw [hK1], by rw [hK1]; exact hle2, by rw [hK1]; exact hC2, hb2⟩
  case rest =>
    obtain ⟨B, m, rfl, hKm, hKC, hbc⟩ := hcut
    clear hN2 hC2 hle2 hkk hkl
    have hmaxK := hKC.2.1
    go_wp2_with fail
    go_loopw [8, 9] (fun ov iv wr => ∃ (i : Nat), iv = .int .i64 (i : Int) ∧ i ≤ KL.length ∧ Kd.S kRows tRow wr wc.heap.size (fun _ => True) ov ((KL.take i).map (rowOut by' aggs rows)) ∧ Below wc.heap.size wc wr) (fun _ iv _ => KL.length - (intOf iv).toNat)
    case atStart => exact ⟨0, rfl, Nat.zero_le _, Kd.S_nil _ _ _ _ _, Below.refl _ _⟩
    case round =>
      obtain ⟨i, rfl, hi, hS, hB⟩ := hrel
      obtain ⟨WR, rfl⟩ : ∃ WR, WR = wr := ⟨_, rfl⟩
      have hbw : Below w.heap.size w WR := hbc.trans (hB.mono hbc.size)
      have hzc := hB.size
      by_cases hlt : i < KL.length
      · have hltz : (i : Int) < (KL.length : Int) := by omega
        obtain ⟨kd, Ak, ck, rfl, hkc, hkle, hkC⟩ := kRows_at hKC i hlt
        have hts := take_snoc' ([] : Row) KL i hlt
        have hkln := hKK _ (getD_mem [] hlt)
        have hPl : ((KL.take i).map (rowOut by' aggs rows)).length = i := by rw [List.length_map, List.length_take]; omega
        generalize KL.getD i [] = key at *
        have hnx : (KL.take (i + 1)).map (rowOut by' aggs rows) = (KL.take i).map (rowOut by' aggs rows) ++ [rowOut by' aggs rows key] := by rw [← hts]; simp
        have HNX := Lib.hid hnx
        clear hnx hts
        have hkcR := pw_cell_below hB hkc
        have hkl1 : key.length ≤ 1048576 := by omega
        have HKLN := Lib.hid hkln
        have hPl' : ((KL.take i).map (rowOut by' aggs rows)).length ≤ 1048577 := by omega
        generalize (KL.take i).map (rowOut by' aggs rows) = P at *
        clear hkln hPl
        go_wp2_with fail
        go_loopw [10, 11] (fun mv nv V => ∃ (n : Nat), nv = .int .i64 (n : Int) ∧ n ≤ rows.length ∧ Kd.N kRows tRow V WR.heap.size (fun _ => True) mv ((rows.take n).filter (mineB by' key)) ∧ Below WR.heap.size WR V) (fun _ nv _ => rows.length - (intOf nv).toNat)
        case atStart => exact ⟨0, rfl, Nat.zero_le _, Kd.N_nil _ _ _ _ _, Below.refl _ _⟩
        case round =>
          obtain ⟨n, rfl, hn, hN, hBn⟩ := hrel
          have hbwn : Below w.heap.size w wr := hbw.trans (hBn.mono hbw.size)
          by_cases hnl : n < rows.length
          · have hnz : (n : Int) < (rows.length : Int) := by omega
            obtain ⟨rd, Ax, cx, rfl, hxc, hxle, hxC⟩ := kRows_at H0 n hnl
            have htn := take_snoc' ([] : Row) rows n hnl
            have hMl : ((rows.take n).filter (mineB by' key)).length ≤ n := Nat.le_trans (List.length_filter_le _ _) (by rw [List.length_take]; omega)
            have hfs := filter_snoc (mineB by' key) (rows.take n) (rows.getD n [])
            rw [htn] at hfs
            generalize rows.getD n [] = x at *
            generalize (rows.take n).filter (mineB by' key) = ML at *
            obtain ⟨kp, hkp⟩ := (pick_f x by' (by omega)).rounds
            obtain ⟨Q, hQ⟩ : ∃ Q, pickS x by' = Q := ⟨_, rfl⟩
            rw [hQ] at hkp
            have hmb : mineB by' key x = decide (ordK Q key = 0) := by unfold mineB; rw [hQ]
            rw [hmb] at hfs
            have HFS := Lib.hid hfs
            clear hfs hQ hmb htn
            have S0 : ∀ V : World, Below wr.heap.size wr V → V.cell? (rd.add n) = some (.slice Ax x.length cx) ∧ V.cell? (kd.add i) = some (.slice Ak key.length ck) := fun V hV => ⟨pw_cell_below (hbwn.trans (hV.mono hbwn.size)) hxc, pw_cell_below (hBn.trans (hV.mono hBn.size)) hkcR⟩
            go_wp2_with fail
            refine (wpIn_wide (n := 0)).1 ?_
            refine wpIn_region_R (l := 0) 99 (S := fun V => V.cell? (rd.add n) = some (.slice Ax x.length cx) ∧ V.cell? (kd.add i) = some (.slice Ak key.length ck)) (by kernel_rfl) (S0 _ (below_drew (Below.refl _ _))) (fun hS0 => ?_)
            refine wpAnyR_take (i := 0) (oi := ⟨some 33, _, _, _, _, _⟩) (v := ?_) (by kernel_rfl) (by kernel_rfl) rfl (by kernel_rfl) (by kernel_rfl) (by kernel_rfl) (fun _ _ _ h => h) (Or.inl ⟨by rfl, ?_⟩) (by assumption) ?_
            rotate_left
            · intro w hSw; (try dsimp only at hSw); (try go_split_ands); go_simp; (try (with_reducible rfl))
            (try simp only [Act.put, List.setIfInBounds_toArray, List.set_cons_zero, List.set_cons_succ])
            refine wpAnyR_take (i := 1) (oi := ⟨some 34, _, _, _, _, _⟩) (v := ?_) (by kernel_rfl) (by kernel_rfl) rfl (by kernel_rfl) (by kernel_rfl) (by kernel_rfl) (fun _ _ _ h => h) (Or.inl ⟨by rfl, ?_⟩) (by assumption) ?_
            rotate_left
            · intro w hSw; (try dsimp only at hSw); (try go_split_ands); go_simp; (try (with_reducible rfl))
            (try simp only [Act.put, List.setIfInBounds_toArray, List.set_cons_zero, List.set_cons_succ])
            refine wpAnyR_take (i := 2) (oi := ⟨some 35, _, _, _, _, _⟩) (v := ?_) (by kernel_rfl) (by kernel_rfl) rfl (by kernel_rfl) (by kernel_rfl) (by kernel_rfl) (fun _ _ _ h => h) (Or.inl ⟨by rfl, ?_⟩) (by assumption) ?_
            rotate_left
            · intro w hSw; (try dsimp only at hSw); (try go_split_ands); go_simp; (try (with_reducible rfl))
            (try simp only [Act.put, List.setIfInBounds_toArray, List.set_cons_zero, List.set_cons_succ])
            refine wpAnyR_take (i := 3) (oi := ⟨some 36, _, _, _, _, _⟩) (v := ?_) (by kernel_rfl) (by kernel_rfl) rfl (by kernel_rfl) (by kernel_rfl) (by kernel_rfl) (fun _ _ _ h => h) (Or.inl ⟨by rfl, ?_⟩) (by assumption) ?_
            rotate_left
            · intro w hSw; (try dsimp only at hSw); (try go_split_ands); go_simp; (try (with_reducible rfl))
            (try simp only [Act.put, List.setIfInBounds_toArray, List.set_cons_zero, List.set_cons_succ])
            refine wpAnyR_take (i := 4) (oi := ⟨some 37, _, _, _, _, _⟩) (v := ?_) (by kernel_rfl) (by kernel_rfl) rfl (by kernel_rfl) (by kernel_rfl) (by kernel_rfl) (fun _ _ _ h => h) (Or.inl ⟨by rfl, ?_⟩) (by assumption) ?_
            rotate_left
            · intro w hSw; (try dsimp only at hSw); (try go_split_ands); go_simp; (try (with_reducible rfl))
            (try simp only [Act.put, List.setIfInBounds_toArray, List.set_cons_zero, List.set_cons_succ])
            refine wpAnyR_take (i := 6) (oi := ⟨some 39, _, _, _, _, _⟩) (v := ?_) (by kernel_rfl) (by kernel_rfl) rfl (by kernel_rfl) (by kernel_rfl) (by kernel_rfl) (fun _ _ _ h => h) (Or.inl ⟨by rfl, ?_⟩) (by assumption) ?_
            rotate_left
            · intro w hSw; (try dsimp only at hSw); (try go_split_ands); go_simp; (try (with_reducible rfl))
            (try simp only [Act.put, List.setIfInBounds_toArray, List.set_cons_zero, List.set_cons_succ])
            refine wpAnyR_take (i := 7) (oi := ⟨some 40, _, _, _, _, _⟩) (v := ?_) (by kernel_rfl) (by kernel_rfl) rfl (by kernel_rfl) (by kernel_rfl) (by kernel_rfl) (fun _ _ _ h => h) (Or.inl ⟨by rfl, ?_⟩) (by assumption) ?_
            rotate_left
            · intro w hSw; (try dsimp only at hSw); (try go_split_ands); go_simp; (try (with_reducible rfl))
            (try simp only [Act.put, List.setIfInBounds_toArray, List.set_cons_zero, List.set_cons_succ])
            refine wpAnyR_take (i := 8) (oi := ⟨some 41, _, _, _, _, _⟩) (v := ?_) (by kernel_rfl) (by kernel_rfl) rfl (by kernel_rfl) (by kernel_rfl) (by kernel_rfl) (fun _ _ _ h => h) (Or.inl ⟨by rfl, ?_⟩) (by assumption) ?_
            rotate_left
            · intro w hSw; (try dsimp only at hSw); (try go_split_ands); go_simp; (try (with_reducible rfl))
            (try simp only [Act.put, List.setIfInBounds_toArray, List.set_cons_zero, List.set_cons_succ])
            refine wpAnyR_take (i := 9) (oi := ⟨some 42, _, _, _, _, _⟩) (v := ?_) (by kernel_rfl) (by kernel_rfl) rfl (by kernel_rfl) (by kernel_rfl) (by kernel_rfl) (fun _ _ _ h => h) (Or.inl ⟨by rfl, ?_⟩) (by assumption) ?_
            rotate_left
            · intro w hSw; (try dsimp only at hSw); (try go_split_ands); go_simp; (try (with_reducible rfl))
            (try simp only [Act.put, List.setIfInBounds_toArray, List.set_cons_zero, List.set_cons_succ])
            refine wpAnyR_one (i := 5) (o := ⟨some 38, _, _, _, _, _⟩) (by kernel_rfl) (by kernel_rfl) rfl (fun K hK => ?_)
            go_simp
            refine (hayloftref15_Pick.calls kp Ax cx x A1 c1 by' Q wr.drew (Kd.C_drew (Kd.C_below hxC hbwn)) hxle (Kd.C_drew (Kd.C_below H1 hbwn)) C1 hkp).mono ?_
            rintro e w5 ⟨v5, rfl, hR5, hb5⟩
            have hb5' : Below wr.heap.size wr w5 := (below_drew (Below.refl _ wr)).trans hb5
            (try dsimp only)
            refine hK.out _ _ (.inr (S0 _ hb5')) ?_
            clear hK K
            (try simp only [Act.put, List.setIfInBounds_toArray, List.set_cons_zero, List.set_cons_succ])
            obtain ⟨QA, qc, rfl, hqle, hqC⟩ := Kd.R_reads hR5
            refine wpAnyR_one (i := 10) (o := ⟨some 43, _, _, _, _, _⟩) (by kernel_rfl) (by kernel_rfl) rfl (fun K hK => ?_)
            go_simp
            refine (hayloftref02_Rows.calls QA qc Q Ak ck key (ordK Q key) w5 hqC hqle (Kd.C_below hkC (hB.trans (((hBn.trans (hb5'.mono hBn.size))).mono hB.size))) hkle rfl).mono ?_
            rintro e w6 ⟨rfl, hb6⟩
            have hb6' : Below wr.heap.size wr w6 := hb5'.trans (hb6.mono hb5'.size)
            (try dsimp only)
            refine hK.out _ _ (.inr (S0 _ hb6')) ?_
            clear hK K
            (try simp only [Act.put, List.setIfInBounds_toArray, List.set_cons_zero, List.set_cons_succ])
            refine wpAnyR_one (i := 11) (o := ⟨some 44, _, _, _, _, _⟩) (by kernel_rfl) (by kernel_rfl) rfl (fun K hK => ?_)
            go_simp
            refine hK.out _ _ (.inr (S0 _ hb6')) ?_
            clear hK K
            (try simp only [Act.put, List.setIfInBounds_toArray, List.set_cons_zero, List.set_cons_succ])
            refine wpAnyR_done (by kernel_rfl) ?_ _
            obtain ⟨hx6, hk6⟩ := S0 _ hb6'
            have hB6 : Below WR.heap.size WR w6 := hBn.trans (hb6'.mono hBn.size)
            have hbw6 : Below w.heap.size w w6 := hbw.trans (hB6.mono hbw.size)
            have hz6 := hB6.size
            have hzW := hbw.size
            have hN6 := Kd.N_below hN hb6'
            have hFK : Kd.FK kRows w6 (fun k => k < w.heap.size) x [.slice Ax x.length cx] := Kd.FK_slice_mk hxle (Kd.F_below (Kd.C_F heapS3 hxC) hbw6)
            by_cases hz : ordK Q key = 0
            · have hzb : (ordK Q key == 0) = true := by rw [hz]; rfl
              have hml : ((rows.take (n + 1)).filter (mineB by' key)) = ML ++ [x] := by rw [HFS.out, if_pos (by simpa using hz)]
              have HML := Lib.hid hml
              clear hml
              go_wp2_with (at_builtin; refine Kd.N_append kRows (w0 := WR) WR.heap.size rfl (.tmp 45) (.tmp 50) 22 31 _ 24 rfl Try.underlying22 infoRow rfl (by decide) (by decide) u10 ML x [.slice Ax x.length cx] (fun _ => True) (fun k => k < w.heap.size) rfl rfl hFK (fun k hk => ⟨trivial, fun e => by have := Kd.N_base hN k e.symm; omega⟩) (fun _ _ => trivial) hN6 hB6 hz6 (by omega) ?_; intro v1 w7 hN7 hB7 hg7 hat7; clear hg7 hat7)
              go_roundw
              case rel => exact ⟨n + 1, by go_num, by omega, by rw [HML.out]; exact hN7, hB7⟩
              case measure => simp [intOf]; omega
            · have hzb : (ordK Q key == 0) = false := by simpa using hz
              have hml : ((rows.take (n + 1)).filter (mineB by' key)) = ML := by rw [HFS.out, if_neg (by simpa using hz)]
              have HML := Lib.hid hml
              clear hml
              go_wp2_with fail
              go_roundw
              case rel => exact ⟨n + 1, by go_num, by omega, by rw [HML.out]; exact hN6, hB6⟩
              case measure => simp [intOf]; omega
          · obtain rfl : n = rows.length := by omega
            rw [List.take_length] at hN
            have hro : rowOut by' aggs rows key = key ++ aggs.map (fun a => toldS a (rows.filter (mineB by' key))) := rfl
            have hml : (rows.filter (mineB by' key)).length ≤ rows.length := List.length_filter_le _ _
            generalize rows.filter (mineB by' key) = ML at *
            generalize rowOut by' aggs rows key = RO at *
            have HRO := Lib.hid hro
            clear hro
            obtain ⟨MA, mc, rfl⟩ := Kd.N_slice hN
            obtain ⟨_, hmle, hMC⟩ := Kd.N_reads' hN
            have hk6 := pw_cell_below hBn hkcR
            have hk7 := fun o => pw_cell_below (below_alloc (Below.refl _ wr) o) hk6
            have hkCr : kS.C wr Ak key.length key := Kd.C_below hkC (hB.trans (hBn.mono hB.size))
            clear hN
            go_wp2_with (at_builtin; refine Kd.R_append_rows kS (w0 := wr) wr.heap.size rfl (.tmp 52) (.tmp 56) 31 42 _ 40 rfl Try.underlying31 infoS rfl (by decide) (by decide) (.slice (some ⟨wr.heap.size, 0, none⟩) 0 0) [] key Ak key.length ck (fun _ => True) (fun _ => False) rfl rfl (R_empty' kS _ _ _ _ (Nat.le_refl _) trivial) (Kd.C_below hkCr (below_alloc (Below.refl _ _) _)) (fun x cs h => kS_KM x cs h) (fun _ h => h.elim) (fun _ _ => trivial) (below_alloc (Below.refl _ _) _) (by simp) (by simp; omega) ?_; intro v1 w4 hv1 hB7 hg7 hat7; clear hg7 hat7)
            have hv1' : kS.R tS w4 wr.heap.size (fun _ => True) v1 key := by simpa using hv1
            obtain ⟨WZ, rfl⟩ : ∃ WZ, WZ = wr := ⟨_, rfl⟩
            obtain ⟨VA, vc, rfl⟩ := Kd.R_slice hv1'
            clear hv1 hk6 hk7 hkCr
            go_wp2_with fail
            go_loopw [12, 13] (fun ov jv V => ∃ (j : Nat), jv = .int .i64 (j : Int) ∧ j ≤ aggs.length ∧ kS.R tS V WZ.heap.size (fun _ => True) ov (key ++ (aggs.take j).map (fun a => toldS a ML)) ∧ Below WZ.heap.size WZ V) (fun _ jv _ => aggs.length - (intOf jv).toNat)
            case atStart => exact ⟨0, rfl, Nat.zero_le _, by simpa using hv1', hB7⟩
            case round =>
              obtain ⟨j, rfl, hj, hRj, hBj⟩ := hrel
              have hbwj : Below w.heap.size w wr := hbwn.trans (hBj.mono hbwn.size)
              have hzj := hBj.size
              by_cases hjl : j < aggs.length
              · have hjz : (j : Int) < (aggs.length : Int) := by omega
                obtain ⟨gd, rfl, a0, a1⟩ := kA_at (Kd.C_below H2 hbwj) j hjl
                have hsn : key ++ (aggs.take (j + 1)).map (fun a => toldS a ML) = (key ++ (aggs.take j).map (fun a => toldS a ML)) ++ [toldS (aggs.getD j z48) ML] := by rw [← take_snoc' z48 aggs j hjl]; simp
                have hll : (key ++ (aggs.take j).map (fun a => toldS a ML)).length ≤ 2097152 := by rw [List.length_append, List.length_map, List.length_take]; omega
                generalize aggs.getD j z48 = ag at *
                generalize key ++ (aggs.take j).map (fun a => toldS a ML) = LL at *
                obtain ⟨ka, hka⟩ := agg_f ML ag (by omega)
                generalize toldS ag ML = y at *
                obtain ⟨y0, y1, y2, y3⟩ := y
                obtain ⟨op, col⟩ := ag
                have HSN := Lib.hid hsn
                have HRJ := Lib.hid hRj
                clear hsn hRj
                simp only at a0 a1 hka
                go_wp2_with fail
                refine (hayloftref15_agg.calls ka MA mc ML op col y0 y1 y2 y3 wr (Kd.C_below hMC hBj) hmle hka).mono ?_
                rintro e w6 ⟨rfl, hb6⟩
                have hB6 : Below WZ.heap.size WZ w6 := hBj.trans (hb6.mono hBj.size)
                have hz6 := hB6.size
                have hR6 := Kd.R_below HRJ.out hb6
                go_wp2_with (at_builtin; refine Kd.R_append kS (w0 := WZ) WZ.heap.size rfl (.tmp 64) (.tmp 71) 31 42 _ 40 rfl Try.underlying31 infoS rfl (by decide) (by decide) u12 LL ⟨y0, y1, y2, y3⟩ [.int .i64 y0, .bool y1, .int .i64 y2, .string y3] (fun _ => True) (fun _ => False) rfl rfl (k42_mkM _ _ _ _) (fun _ h => h.elim) (fun _ _ => trivial) hR6 hB6 hz6 (by omega) ?_; intro v1 w7 hv1 hB1 hg1 hat1; clear hg1 hat1)
                go_roundw
                case rel => exact ⟨j + 1, by go_num, by omega, by rw [HSN.out]; exact hv1, hB1⟩
                case measure => simp [intOf]; omega
              · obtain rfl : j = aggs.length := by omega
                rw [List.take_length, ← HRO.out] at hRj
                obtain ⟨RA, rc, rfl⟩ := Kd.R_slice hRj
                have hbZR : Below WR.heap.size WR wr := hBn.trans (hBj.mono hBn.size)
                have hzn := hBn.size
                have hB9 : Below wc.heap.size wc wr := hB.trans (hbZR.mono hB.size)
                have hz9 := hB9.size
                have hS9 : Kd.S kRows tRow wr wc.heap.size (fun k => True ∧ ¬ ((Value.slice RA RO.length rc).ownBlock = some k)) u8 P := by
                  refine Kd.S_mono (Kd.S_below (Kd.S_bound hS) hbZR) (fun k hk => ⟨trivial, fun h => ?_⟩)
                  have := Kd.R_base hRj k h
                  have := hk.2.2.1
                  omega
                go_wp2_with (at_builtin; refine Kd.S_append kRows (w0 := wc) (W := wr) wc.heap.size rfl (.tmp 73) (.tmp 75) 22 31 _ 24 rfl Try.underlying22 infoRow rfl (by decide) (by decide) u8 P RO [.slice RA RO.length rc] (fun _ => True) (fun k => (Value.slice RA RO.length rc).ownBlock = some k) rfl rfl ⟨_, rfl, RS_ok (Kd.R_lower hRj (by omega)) (fun _ h => h)⟩ (fun k hk => ⟨trivial, fun e => by have h2 := Kd.S_lt hS k e.symm; have h3 := Kd.R_base hRj k hk; omega⟩) (fun _ _ => trivial) hS9 hB9 hz9 (by omega) ?_; intro v5 w5 hS5 hB5 hg5 hat5; clear hg5 hat5)
                go_roundw
                case rel => exact ⟨i + 1, by go_num, by omega, by rw [HNX.out]; exact hS5, hB5⟩
                case measure => simp [intOf]; omega
      · obtain rfl : i = KL.length := by omega
        rw [List.take_length, ← HDOC.out] at hS
        obtain ⟨OA, oc, hov⟩ := Kd.S_slice hS
        go_wp2_with fail
        go_ret
        exact ⟨_, rfl, Kd.S_lower hS hbc.size, hbw⟩
end Go.Proofs.Ytghblnldokpceaa.QV
/- ExecGroups: the walk. -/
namespace Go.Proofs.Ytghblnldokpceaa.QV
open Go.RowKit Go.Proofs.YtghblnldokpceaaW.PrintWords Go.Proofs.Ytghblnldokpceaa.SeqW Go.Shelf Go.Proofs.Ytghblnldokpceaa.Op
set_option linter.unusedVariables false
set_option linter.unusedSimpArgs false

theorem btrG {a b c : World} (h : Below a.heap.size a b) (k : Below b.heap.size b c) : Below a.heap.size a c := h.trans (k.mono h.size)
theorem groupL_len (by' : List Int) (aggs : List Ag) (rows : List Row) : (groupL by' aggs rows).length ≤ rows.length + 1 := by
  unfold groupL; rw [List.length_map]; exact groupsL_len by' rows
theorem groupL_row (by' : List Int) (aggs : List Ag) (rows : List Row) : ∀ x ∈ groupL by' aggs rows, x.length ≤ by'.length + aggs.length := by
  intro x hx
  unfold groupL at hx
  obtain ⟨g, hg, rfl⟩ := List.mem_map.1 hx
  rw [List.length_append, List.length_map, groupsL_klen by' rows g hg]
  exact Nat.le_refl _
set_option maxRecDepth 100000 in
set_option maxHeartbeats 4000000 in
theorem walkGroups (A0 : Option Addr) (c0 : Nat) (x0 : List Row) (A1 : Option Addr) (c1 : Nat) (x1 : List Int) (A2 : Option Addr) (c2 : Nat) (x2 : List Ag) (w : World) (H0 : kRows.C w A0 x0.length x0) (C0 : x0.length ≤ c0) (H1 : kI.C w A1 x1.length x1) (C1 : x1.length ≤ c1) (H2 : kA.C w A2 x2.length x2) (C2 : x2.length ≤ c2)
    (hL : ∀ x ∈ x0, x.length ≤ 1048576) (n0 : x0.length ≤ 1048576) (n1 : x1.length ≤ 1048576) (n2 : x2.length ≤ 1048576) :
    Calls Try.prog 4 #[.slice A0 x0.length c0, .slice A1 x1.length c1, .slice A2 x2.length c2] w fun e w' => e = .returned (.bool true) ∧ Below w.heap.size w w' := by
  obtain ⟨k0, hk0⟩ := copied_f x0 (by omega) (fun x hx => by have := hL x hx; omega)
  obtain ⟨k3, hk3⟩ := same_self x0 (by omega) (fun x hx => by have := hL x hx; omega)
  have hgl := groupL_len x1 x2 x0
  have hgr := groupL_row x1 x2 x0
  obtain ⟨GL, hGL⟩ : ∃ GL, groupL x1 x2 x0 = GL := ⟨_, rfl⟩
  rw [hGL] at hgl hgr
  go_enter Try.func4, Try.ntmps4
  go_wp2_with fail
  refine (hayloftlaw15_copied.calls k0 A0 c0 x0 x0 w H0 C0 hk0).mono ?_
  rintro e w2 ⟨v2, rfl, hS2, hb2⟩
  obtain ⟨B2, m2, rfl, hle2, hC2⟩ := Kd.S_reads hS2
  go_wp2_with fail
  refine (aliveX_any _).mono ?_
  rintro e w3 ⟨rfl, hb3⟩
  have hB3 := btrG hb2 hb3
  go_wp2_with fail
  refine (values_is B2 x0 m2 w3 (Kd.C_below hC2 hb3)).mono ?_
  rintro e w4 ⟨v4, rfl, hs4, hb4⟩
  obtain ⟨f4, l4, rfl⟩ := hs4.form
  have hB4 := btrG hB3 hb4
  go_wp2_with fail
  refine (group_is x0 x1 x2 A1 c1 A2 c2 _ w4 hs4 (Kd.C_below H1 hB4) C1 (Kd.C_below H2 hB4) C2 hL n0 n1 n2).mono ?_
  rintro e w5 ⟨v5, rfl, hs5, hb5⟩
  rw [hGL] at hs5
  obtain ⟨f5, l5, rfl⟩ := hs5.seq.form
  have hB5 := btrG hB4 hb5
  go_wp2_with fail
  have hrg := refGroup_any A0 c0 x0 A1 c1 x1 A2 c2 x2 w5 (Kd.C_below H0 hB5) C0 (Kd.C_below H1 hB5) C1 (Kd.C_below H2 hB5) C2 n0 n1 n2
  rw [hGL] at hrg
  refine hrg.mono ?_
  rintro e w6 ⟨v6, rfl, hS6, hb6⟩
  obtain ⟨B6, m6, rfl, hle6, hC6⟩ := Kd.S_reads hS6
  have hB6 := btrG hB5 hb6
  clear hrg
  go_wp2_with fail
  refine (twice_any _ _ B6 m6 w5 w6 hs5 hb6 hC6 hle6 (fun x hx => by have := hgr x hx; omega) (by omega)).mono ?_
  rintro e w7 ⟨rfl, hb7⟩
  have hB7 := btrG hB6 hb7
  go_wp2_with fail
  have hb27 := btrG (btrG (btrG (btrG hb3 hb4) hb5) hb6) hb7
  refine (hayloftref02_SameAll.calls k3 B2 m2 x0 A0 c0 x0 true w7 (Kd.C_below hC2 hb27) hle2 (Kd.C_below H0 hB7) C0 hk3).mono ?_
  rintro e w8 ⟨rfl, hd8⟩
  go_wp2_with fail
  go_ret
  exact ⟨rfl, btrG hB7 hd8.below⟩
end Go.Proofs.Ytghblnldokpceaa.QV
