/- The parts GrpW1, GrpW2, GrpF, Stab4, Stab5, Stab6, Stab7, Stab8, SortC, SortF, Project, Ops of this proof, one behind the other. -/
import Derived.Test.YtihdlalbgdighaaDoorZ2
/- exec.Group: what its iterator gives (a key at least). -/
namespace Go.Proofs.YtihdlalbgdighaaDoor.QV
open Go.RowKit Go.Proofs.YtihdlalbgdighaaDoorW.PrintWords Go.Proofs.YtihdlalbgdighaaDoor.Seq Go.Shelf Go.Proofs.YtihdlalbgdighaaDoor.Op Go.Proofs.YtihdlalbgdighaaDoor.Stab
set_option linter.unusedVariables false
set_option maxRecDepth 100000
set_option linter.unusedSimpArgs false
attribute [local go_sem] Oper.semAt_some

def gp (g : GE) : Grp := (g.key, g.rows)
theorem rise_of {by' : List Int} {pre : List Row} {G : List GE} (h : G.map gp = groupsL by' pre) : RiseG G := by
  have h1 := (groupsL_inv by' pre).rise
  rw [← h, List.map_map] at h1
  unfold RiseK at h1
  rw [List.pairwise_map] at h1
  exact h1
theorem gp_getD (G : List GE) (i : Nat) : (G.map gp).getD i ([], []) = gp (G.getD i zGE) := by
  rw [List.getD_eq_getElem?_getD, List.getD_eq_getElem?_getD, List.getElem?_map]
  cases G[i]? <;> rfl
theorem found_map {G : List GE} {P x : Row} {i : Nat} {g' : GE} (hi : i ≤ G.length) (hlo : ∀ y ∈ G.take i, ordK y.key P < 0) (hhi : ∀ y ∈ G.drop i, 0 ≤ ordK y.key P) (hf : i < G.length ∧ ordK (G.getD i zGE).key P = 0) (hk : g'.key = (G.getD i zGE).key) (hr : g'.rows = (G.getD i zGE).rows ++ [x]) :
    (G.set i g').map gp = addG (G.map gp) P x := by
  rw [addG_at (G.map gp) P x i (by simpa using hi) (fun y hy => ?_) (fun y hy => ?_), gp_getD, if_pos ⟨by simpa using hf.1, hf.2⟩]
  · rw [List.map_set, List.set_eq_take_append_cons_drop, if_pos (by simpa using hf.1)]
    simp [gp, hk, hr]
  · rw [← List.map_take] at hy
    obtain ⟨z, hz, rfl⟩ := List.mem_map.1 hy
    exact hlo z hz
  · rw [← List.map_drop] at hy
    obtain ⟨z, hz, rfl⟩ := List.mem_map.1 hy
    exact hhi z hz
theorem fresh_map {G : List GE} {P x : Row} {i : Nat} {g0 g' : GE} (hi : i ≤ G.length) (hlo : ∀ y ∈ G.take i, ordK y.key P < 0) (hhi : ∀ y ∈ G.drop i, 0 ≤ ordK y.key P) (hf : ¬ (i < G.length ∧ ordK (G.getD i zGE).key P = 0)) (hk : g'.key = P) (hr : g'.rows = [x]) :
    ((G.take i ++ g0 :: G.drop i).set i g').map gp = addG (G.map gp) P x := by
  rw [addG_at (G.map gp) P x i (by simpa using hi) (fun y hy => ?_) (fun y hy => ?_), gp_getD, if_neg (fun h => hf ⟨by simpa using h.1, h.2⟩)]
  · have hl : (G.take i).length = i := by rw [List.length_take]; omega
    have e : (G.take i ++ g0 :: G.drop i).set i g' = G.take i ++ g' :: G.drop i := by
      rw [List.set_append_right _ _ (by omega), hl, Nat.sub_self]; rfl
    rw [e, List.map_append, List.map_cons, List.map_take, List.map_drop]
    simp [gp, hk, hr]
  · rw [← List.map_take] at hy
    obtain ⟨z, hz, rfl⟩ := List.mem_map.1 hy
    exact hlo z hz
  · rw [← List.map_drop] at hy
    obtain ⟨z, hz, rfl⟩ := List.mem_map.1 hy
    exact hhi z hz
/-- Between two rounds of the first loop. -/
def GrpJ (W : World) (by' : List Int) (pre : List Row) (M : Nat → Prop) (A : World) : Prop := ∃ (G : List GE) (gv : Value) (o : Nat → Nat), GSt W.heap.size G gv o M A ∧ G.map gp = groupsL by' pre ∧ Below W.heap.size W A
theorem GrpJ.kept {W : World} {by' : List Int} {pre : List Row} {M : Nat → Prop} {A B : World} {q : Nat → Prop} (h : GrpJ W by' pre M A) (hq : ∀ i, q i → W.heap.size ≤ i) (hk : Kpt (fun i => q i ∧ ¬ M i) A B) : GrpJ W by' pre M B := by
  obtain ⟨G, gv, o, h1, h2, h3⟩ := h
  exact ⟨G, gv, o, h1.kept hk.size (fun k hM => hk.block k (h1.mlt k hM).2 (fun h => h.2 hM)), h2, h3.trans (hk.below h3.size (fun i _ h => hq i h.1))⟩
theorem rowOut_snoc (k : Row) (rows : List Row) (aggs : List Ag) (j : Nat) (hj : j < aggs.length) : k ++ (aggs.take (j + 1)).map (fun a => toldS a rows) = (k ++ (aggs.take j).map (fun a => toldS a rows)) ++ [toldS (aggs.getD j z99) rows] := by
  rw [← take_snoc' z99 aggs j hj]; simp
theorem groupL_take (by' : List Int) (aggs : List Ag) (xs : List Row) (G : List GE) (h : G.map gp = groupsL by' xs) (k : Nat) (hk : k < G.length) : (groupL by' aggs xs).take (k + 1) = (groupL by' aggs xs).take k ++ [(G.getD k zGE).key ++ aggs.map (fun a => toldS a (G.getD k zGE).rows)] := by
  have hl : (groupL by' aggs xs).length = G.length := by unfold groupL; rw [← h]; simp
  rw [← take_snoc' [] (groupL by' aggs xs) k (by omega)]
  congr 2
  unfold groupL
  rw [← h, List.getD_eq_getElem?_getD, List.getElem?_map, List.getElem?_map, List.getD_eq_getElem?_getD, List.getElem?_eq_getElem hk]
  rfl

set_option maxRecDepth 100000 in
set_option maxHeartbeats 8000000 in
theorem group_seq_cons (by' : List Int) (aggs : List Ag) (xs : List Row) (sv : Value) (b1 b2 b3 : Nat) (bA : Option Addr) (bc : Nat) (gA : Option Addr) (gc : Nat) (w : World) (hR : IsSeq w sv xs)
    (h1 : w.cell? ⟨b1, 0, none⟩ = some (.slice bA by'.length bc)) (h2 : w.cell? ⟨b2, 0, none⟩ = some sv) (h3 : w.cell? ⟨b3, 0, none⟩ = some (.slice gA aggs.length gc))
    (hby : kI.C w bA by'.length by') (hbc : by'.length ≤ bc) (hag : kA.C w gA aggs.length aggs) (hgc : aggs.length ≤ gc)
    (hb : ∀ x ∈ xs, x.length ≤ 1048576) (hn : xs.length ≤ 1048576) (hb1 : by'.length ≤ 1048576) (hb2 : aggs.length ≤ 1048576) (hcase : by' ≠ []) :
    SeqOf Tryd.prog 55 #[.pointer (some ⟨b1, 0, none⟩), .pointer (some ⟨b2, 0, none⟩), .pointer (some ⟨b3, 0, none⟩)] (RdNew w) (groupL by' aggs xs) w := by
  intro l J Jx W Mc hW hMc hJ hJx hY h0
  have hcons : Cons Tryd.prog w W l J Jx Mc (groupL by' aggs xs) := ⟨hW, hMc, hJ, hJx, hY⟩
  have hzw : w.heap.size ≤ W.heap.size := hW.size
  have hMcW : ∀ i, Mc i → i < W.heap.size := fun i h => (hMc i h).2
  obtain ⟨gR, lbR, RdR, rfl, egR, hsR, hkR, hrR⟩ := hR
  refine (callsIn_wide (n := 0)).1 (callsIn_of_wp_marks Tryd.func55 rfl trivial ?_ rfl)
  simp only [Tryd.ntmps55, List.size_toArray, List.length_cons, List.length_nil, Nat.reduceAdd, Nat.reduceSub, Array.replicate_succ, Array.replicate_zero, List.push_toArray, List.append_toArray, List.nil_append, List.cons_append]
  have hbWa : Below W.heap.size W (W.alloc (.cells #[.slice none 0 0] 113)) := below_alloc (Below.refl _ _) _
  have d1 : (W.alloc (.cells #[.slice none 0 0] 113)).cell? ⟨b1, 0, none⟩ = some (.slice bA by'.length bc) := pw_cell_below (hW.trans (hbWa.mono hzw)) h1
  have hlz : ¬ ((by'.length : Int) = 0) := by
    cases by' with
    | nil => exact absurd rfl hcase
    | cons a l => simp only [List.length_cons]; omega
  have hlb : ((by'.length : Int) == 0) = false := by simpa using hlz
  have d2 : (W.alloc (.cells #[.slice none 0 0] 113)).cell? ⟨b2, 0, none⟩ = some (.func (.func gR) #[] lbR) := pw_cell_below (hW.trans (hbWa.mono hzw)) h2
  gi_wp2

  obtain ⟨W1, hW1⟩ : ∃ W1, W.alloc (.cells #[.slice none 0 0] 113) = W1 := ⟨_, rfl⟩
  have hbW1 : Below W.heap.size W W1 := by rw [← hW1]; exact hbWa
  have hszW1 : W1.heap.size = W.heap.size + 1 := by rw [← hW1]; simp
  have hx5 : W1.heap[W.heap.size]? = some (.cells #[.slice none 0 0] 113 (0, 0)) := by rw [← hW1]; exact blk_new _ _
  rw [hW1]
  clear hW1 d1 d2
  obtain ⟨G0, gv0, o0, M0, hG0, hmap0, hM0⟩ : ∃ (G0 : List GE) (gv0 : Value) (o0 : Nat → Nat) (M0 : Nat → Prop), GSt W.heap.size G0 gv0 o0 M0 W1 ∧ G0.map gp = groupsL by' [] ∧ (∀ i, M0 i → W.heap.size ≤ i ∧ i < W1.heap.size) := by
    refine ⟨[], .slice none 0 0, fun i => 0, fun i => i = W.heap.size, ⟨hx5, rfl, rfl, ⟨⟨rfl, .inl ⟨rfl, rfl⟩⟩, by simp⟩, fun k hk => by simp [Value.ownBlock] at hk, by simp, by simp, by simp, by simp, fun k hk => by omega⟩, by simp [groupsL, startG, hcase], fun k hk => by omega⟩
  refine wpIn_range (gf := gR) (lb := lbR) rfl egR hsR (hW.trans (hbW1.mono hzw)) (fun A N x vs h => by obtain ⟨Ad, c, rfl, _⟩ := hrR _ _ _ _ h; rfl) hkR
    (GrpJ W by') (fun _ _ _ _ => False) (fun pre M A B h hk => h.kept (fun i h => by omega) hk) (fun _ _ _ _ _ h _ => h)
    M0 ?hM ?h0 (fun x vs a₁ M A => ∃ v, vs = #[v] ∧ a₁ = { tmps := #[.func (.yield l) #[] #[], .pointer (some ⟨b1, 0, none⟩), .pointer (some ⟨b2, 0, none⟩), .pointer (some ⟨b3, 0, none⟩), undef, .pointer (some ⟨W.heap.size, 0, none⟩), v, undef, undef, undef, undef, undef, undef, undef, undef, .slice bA by'.length bc, .int .i64 by'.length, .bool false, undef, undef, undef, undef, .func (.func gR) #[] lbR, v] ++ Array.replicate 57 undef, defers := [] })
    (fun _ _ _ _ _ _ h _ => h) ?assign ?body ?done ?stop
  case hM => exact fun i hi => ⟨Nat.le_trans hzw (hM0 i hi).1, (hM0 i hi).2⟩
  case h0 => exact ⟨G0, gv0, o0, hG0, hmap0, hbW1⟩
  case stop =>
    intro D c pre W M' hpre h
    exact h.elim
  case assign =>
    intro l2 pre x vs N A M hI hpre hrd hM hN
    obtain ⟨Ad, c, rfl, hle, hC⟩ := hrR _ _ _ _ hrd
    gi_wp2
    refine ⟨M, fun i hi => ⟨.inl hi, (hM i hi).2⟩, Kpt.refl _ _, hI, _, rfl, ?_⟩
    simp only [List.size_toArray, List.length_cons, List.length_nil, Nat.reduceAdd, Nat.reduceSub, Array.replicate_succ, Array.replicate_zero, List.push_toArray, List.append_toArray, List.nil_append, List.cons_append]
  case body =>
    intro l2 pre x vs N A M a₁ hI hpre hrd hax hM hN
    obtain ⟨v, rfl, rfl⟩ := hax
    simp only [List.size_toArray, List.length_cons, List.length_nil, Nat.reduceAdd, Nat.reduceSub, Array.replicate_succ, Array.replicate_zero, List.push_toArray, List.append_toArray, List.nil_append, List.cons_append]
    obtain ⟨G, gv, o, hG, hmap, hBW⟩ := hI
    obtain ⟨Ad, c, hvv, hle, hC⟩ := hrR _ _ _ _ hrd
    obtain rfl : v = .slice Ad x.length c := by simpa using hvv
    clear hvv
    have hx1 := hb x (hpre.subset (by simp))
    have hlen : pre.length + 1 ≤ xs.length := by have := hpre.length_le; simpa using this
    have hglen : ∀ g ∈ G, g.rows.length ≤ pre.length := fun g hg => by
      have h := (groupsL_inv by' pre).mine (gp g) (by rw [← hmap]; exact List.mem_map_of_mem hg)
      have h' : g.rows = pre.filter (mineB by' g.key) := h
      rw [h']; exact List.length_filter_le _ _
    have hGl : G.length ≤ pre.length + 1 := by have := groupsL_len by' pre; rw [← hmap, List.length_map] at this; exact this
    have hrise := rise_of hmap
    obtain ⟨GAd, gcap, rfl, hgcap⟩ := hG.slice
    have hbA : Below w.heap.size w A := hW.trans (hBW.mono hzw)
    have d1 : A.cell? ⟨b1, 0, none⟩ = some (.slice bA by'.length bc) := pw_cell_below hbA h1
    obtain ⟨kp, hkp⟩ := picked_f x by' (by omega)
    have hsn := groupsL_snoc by' pre x
    obtain ⟨P, hP⟩ : ∃ P, pickS x by' = P := ⟨_, rfl⟩
    rw [hP] at hkp hsn
    have HSN := Lib.hid hsn
    have HMAP := Lib.hid hmap
    clear hsn hP hmap
    obtain ⟨nG, hnG⟩ : ∃ nG, G.length = nG := ⟨_, rfl⟩
    have HNG := Lib.hid hnG
    rw [hnG] at hGl hgcap hG
    gi_wp2
    refine ⟨trivial, rfl, calls_in _ _ ((exec_picked.calls kp Ad c x bA bc by' P A hC hle (Kd.C_below hby hbA) hbc hkp).mono ?_)⟩
    rintro e W2 ⟨vk, rfl, hk, hb2⟩
    obtain ⟨KB, kc, rfl, hkle, hkC⟩ := Kd.R_reads hk
    have hG2 := hG.below hb2
    have e5 : W2.cell? ⟨W.heap.size, 0, none⟩ = some (.slice GAd nG gcap) := blk_cell hG2.box 0
    gi_wp2
    have hsr := searchG_any GAd G gcap P KB kc W2 (hG2.cells rfl) hG2.keyOk hkC hkle hrise (by omega)
    rw [hnG] at hsr
    clear hnG
    refine ⟨trivial, rfl, calls_in _ _ (hsr.mono ?_)⟩
    rintro e W3 ⟨i, b, rfl, hi, hlo, hhi, hbq, hb3⟩
    rw [HNG.out] at hi
    clear hsr
    have HLH := Lib.hid (And.intro hlo hhi)
    clear hlo hhi
    have hb3A : Below A.heap.size A W3 := hb2.trans (hb3.mono hb2.size)
    have hG3 := hG2.below hb3
    cases b with
    | true =>
      have hf : i < G.length ∧ ordK (G.getD i zGE).key P = 0 := of_decide_eq_true hbq.symm
      have hin : i < nG := by rw [← HNG.out]; exact hf.1
      have HF := Lib.hid hf
      clear hf hbq
      obtain ⟨ad, had⟩ : ∃ ad, GAd = some ad := by
        obtain ⟨ad, e, _⟩ := (hG3.cells rfl) i HF.out.1
        exact ⟨ad, e⟩
      subst had
      obtain ⟨n1, c1, G1, o1, M1, A1, hA1, hnn, hcc, hG1, hG1N, hglen1, hM1, hKA1, hC1, hset⟩ : ∃ (n1 c1 : Nat) (G1 : List GE) (o1 : Nat → Nat) (M1 : Nat → Prop) (A1 : World), A1 = W3 ∧ n1 = nG ∧ c1 = gcap ∧ GSt W.heap.size G1 (.slice (some ad) n1 c1) o1 M1 A1 ∧ G1.length = n1 ∧ (∀ g ∈ G1, g.rows.length ≤ pre.length) ∧ (∀ j, M1 j → M j ∨ A.heap.size ≤ j) ∧ Kpt M A A1 ∧ kS.C A1 Ad x.length x ∧
          (∀ g' : GE, g'.key = (G1.getD i zGE).key → g'.rows = (G1.getD i zGE).rows ++ [x] → (G1.set i g').map gp = addG (G.map gp) P x) :=
        ⟨_, _, G, o, M, W3, rfl, rfl, rfl, hG3, HNG.out, hglen, fun j h => .inl h, Kpt.of_new M hb3A, Kd.C_below hC hb3A, fun g' hk hr => found_map (by rw [HNG.out]; exact hi) HLH.out.1 HLH.out.2 HF.out hk hr⟩
      subst hA1 hnn hcc
      have HG1N := Lib.hid hG1N
      clear hG1N
      gi_wp2
      clear hG2 hG3 hglen hrise HLH HF HNG e5 d1 hk hkC
      have hi1z : (i : Int) < (n1 : Int) := by omega
      have hbase1 : W.heap.size ≤ A1.heap.size := Nat.le_of_lt (hG1.mlt _ hG1.mb).2
      obtain ⟨gb, gc1, gcur, hgvf, hgc1, hgbk, _, _⟩ := hG1.form (by rw [HG1N.out]; omega)
      injection hgvf with hgad hgn hgcc
      injection hgad with hgad
      obtain ⟨ad', had', k0, k1⟩ := (hG1.cells rfl) i (by rw [HG1N.out]; omega)
      injection had' with had'
      subst had'
      obtain ⟨g, hgd⟩ : ∃ g, G1.getD i zGE = g := ⟨_, rfl⟩
      have hgm : g ∈ G1 := by rw [← hgd]; exact getD_mem _ (by rw [HG1N.out]; omega)
      rw [hgd] at k0 k1
      have hRg := hG1.rows g hgm
      have htg := hG1.tag3 g hgm
      have hgl : g.rows.length ≤ pre.length := hglen1 g hgm
      have HGD := Lib.hid hgd
      have HFM := Lib.hid (And.intro hgad (And.intro hgn hgcc))
      clear hgd hgad hgn hgcc hgm
      obtain ⟨gkey, grows, gka, gkc, gra, grc, gtag⟩ := g
      simp only [GE.raw] at k0 k1 hRg hgl htg
      have HRG := Lib.hid hRg
      clear hRg
      have S0 : ∀ V : World, Below A1.heap.size A1 V → V.cell? ⟨W.heap.size, 0, none⟩ = some (.slice (some ad) n1 c1) ∧ V.cell? ⟨(ad.add (i * 2)).block, (ad.add (i * 2)).off + 1, none⟩ = some (.slice gra grows.length grc) ∧ V.frozen? ⟨(ad.add (i * 2)).block, (ad.add (i * 2)).off + 1, none⟩ = false :=
        fun V hV => ⟨blk_cell (blk_below hG1.box hV) 0, pw_cell_below hV k1, by
          have := blk_frozen (blk_below hgbk hV) (i * 2 + 1)
          rw [HFM.out.1, add_plain]; exact this⟩
      refine wpIn_region_R 13 (S := fun V => V.cell? ⟨W.heap.size, 0, none⟩ = some (.slice (some ad) n1 c1) ∧ V.cell? ⟨(ad.add (i * 2)).block, (ad.add (i * 2)).off + 1, none⟩ = some (.slice gra grows.length grc) ∧ V.frozen? ⟨(ad.add (i * 2)).block, (ad.add (i * 2)).off + 1, none⟩ = false) (by kernel_rfl) (S0 _ (below_drew (Below.refl _ _))) (fun hS0 => ?_)
      refine wpAnyR_take (i := 0) (oi := ⟨some 41, _, _, _, _, _⟩) (v := ?_) (by kernel_rfl) (by kernel_rfl) rfl (by kernel_rfl) (by kernel_rfl) (by kernel_rfl) (fun _ _ _ h => h) (Or.inl ⟨by rfl, ?_⟩) (by assumption) ?_
      rotate_left
      · intro w hSw; (try dsimp only at hSw); (try go_split_ands); go_simp; (try (with_reducible rfl))
      (try simp only [Act.put, List.setIfInBounds_toArray, List.set_cons_zero, List.set_cons_succ])
      refine wpAnyR_take (i := 1) (oi := ⟨some 42, _, _, _, _, _⟩) (v := ?_) (by kernel_rfl) (by kernel_rfl) rfl (by kernel_rfl) (by kernel_rfl) (by kernel_rfl) (fun _ _ _ h => h) (Or.inl ⟨by rfl, ?_⟩) (by assumption) ?_
      rotate_left
      · intro w hSw; (try dsimp only at hSw); (try go_split_ands); go_simp; (try (with_reducible rfl))
      (try simp only [Act.put, List.setIfInBounds_toArray, List.set_cons_zero, List.set_cons_succ])
      refine wpAnyR_take (i := 2) (oi := ⟨some 43, _, _, _, _, _⟩) (v := ?_) (by kernel_rfl) (by kernel_rfl) rfl (by kernel_rfl) (by kernel_rfl) (by kernel_rfl) (fun _ _ _ h => h) (Or.inl ⟨by rfl, ?_⟩) (by assumption) ?_
      rotate_left
      · intro w hSw; (try dsimp only at hSw); (try go_split_ands); go_simp; (try (with_reducible rfl))
      (try simp only [Act.put, List.setIfInBounds_toArray, List.set_cons_zero, List.set_cons_succ])
      refine wpAnyR_take (i := 3) (oi := ⟨some 44, _, _, _, _, _⟩) (v := ?_) (by kernel_rfl) (by kernel_rfl) rfl (by kernel_rfl) (by kernel_rfl) (by kernel_rfl) (fun _ _ _ h => h) (Or.inl ⟨by rfl, ?_⟩) (by assumption) ?_
      rotate_left
      · intro w hSw; (try dsimp only at hSw); (try go_split_ands); go_simp; (try (with_reducible rfl))
      (try simp only [Act.put, List.setIfInBounds_toArray, List.set_cons_zero, List.set_cons_succ])
      refine wpAnyR_take (i := 4) (oi := ⟨some 45, _, _, _, _, _⟩) (v := ?_) (by kernel_rfl) (by kernel_rfl) rfl (by kernel_rfl) (by kernel_rfl) (by kernel_rfl) (fun _ _ _ h => h) (Or.inl ⟨by rfl, ?_⟩) (by assumption) ?_
      rotate_left
      · intro w hSw; (try dsimp only at hSw); (try go_split_ands); go_simp; (try (with_reducible rfl))
      (try simp only [Act.put, List.setIfInBounds_toArray, List.set_cons_zero, List.set_cons_succ])
      refine wpAnyR_take (i := 5) (oi := ⟨some 46, _, _, _, _, _⟩) (v := ?_) (by kernel_rfl) (by kernel_rfl) rfl (by kernel_rfl) (by kernel_rfl) (by kernel_rfl) (fun _ _ _ h => h) (Or.inl ⟨by rfl, ?_⟩) (by assumption) ?_
      rotate_left
      · intro w hSw; (try dsimp only at hSw); (try go_split_ands); go_simp; (try (with_reducible rfl))
      (try simp only [Act.put, List.setIfInBounds_toArray, List.set_cons_zero, List.set_cons_succ])
      refine wpAnyR_take (i := 6) (oi := ⟨some 47, _, _, _, _, _⟩) (v := ?_) (by kernel_rfl) (by kernel_rfl) rfl (by kernel_rfl) (by kernel_rfl) (by kernel_rfl) (fun _ _ _ h => h) (Or.inl ⟨by rfl, ?_⟩) (by assumption) ?_
      rotate_left
      · intro w hSw; (try dsimp only at hSw); (try go_split_ands); go_simp; (try (with_reducible rfl))
      (try simp only [Act.put, List.setIfInBounds_toArray, List.set_cons_zero, List.set_cons_succ])
      refine wpAnyR_take (i := 7) (oi := ⟨some 48, _, _, _, _, _⟩) (v := ?_) (by kernel_rfl) (by kernel_rfl) rfl (by kernel_rfl) (by kernel_rfl) (by kernel_rfl) (fun _ _ _ h => h) (Or.inl ⟨by rfl, ?_⟩) (by assumption) ?_
      rotate_left
      · intro w hSw; (try dsimp only at hSw); (try go_split_ands); go_simp; (try (with_reducible rfl))
      (try simp only [Act.put, List.setIfInBounds_toArray, List.set_cons_zero, List.set_cons_succ])
      refine wpAnyR_one (i := 8) (o := ⟨some 49, _, _, _, _, _⟩) (by kernel_rfl) (by kernel_rfl) rfl (fun K hK => ?_)
      go_simp
      refine (clone_any Ad x c A1.drew (Kd.C_drew hC1) hle (by omega)).mono ?_
      rintro e W4 ⟨v1, rfl, hR1, hb4⟩
      have hb4A : Below A1.heap.size A1 W4 := (below_drew (Below.refl _ A1)).trans hb4
      (try dsimp only)
      refine hK.out _ _ (.inr (S0 _ hb4A)) ?_
      clear hK K
      (try simp only [Act.put, List.setIfInBounds_toArray, List.set_cons_zero, List.set_cons_succ])
      obtain ⟨X1, x1c, rfl, hle1, hCx1⟩ := Kd.R_reads hR1
      refine wpAnyR_one (i := 9) (o := ⟨some 50, _, _, _, _, _⟩) (by kernel_rfl) (by kernel_rfl) rfl (fun K hK => ?_)
      go_simp
      refine hK.out _ _ (.inr (S0 _ (below_alloc hb4A _))) ?_
      clear hK K
      (try simp only [Act.put, List.setIfInBounds_toArray, List.set_cons_zero, List.set_cons_succ])
      refine wpAnyR_one (i := 10) (o := ⟨some 51, _, _, _, _, _⟩) (by kernel_rfl) (by kernel_rfl) rfl (fun K hK => ?_)
      have hzA4 : A1.heap.size ≤ W4.heap.size := hb4A.size
      refine Kd.R_append_step kRows (w0 := A1) W.heap.size (by rfl) (.tmp 47) (.tmp 50) 28 62 _ 24 rfl Tryd.underlying28 infoRow rfl (by decide) (by decide) (.slice gra grows.length grc) grows x [.slice X1 x.length x1c]
        (fun k => (M1 k ∧ o1 k = gtag) ∨ A1.heap.size ≤ k) (fun k => (Value.slice X1 x.length x1c).ownBlock = some k) rfl rfl ⟨_, rfl, RS_ok (Kd.R_lower hR1 (by show W.heap.size ≤ A1.heap.size; omega)) (fun _ h => h)⟩ ?_ (fun k hk => .inr (by omega)) ?_ (hb4A.mono (by omega)) (by omega) (by omega) ?_
      · intro k hk
        have := Kd.R_base hR1 k hk
        exact ⟨.inr this, fun e => by have h2 := Kd.R_lt HRG.out k e.symm; exact absurd this (by show ¬ A1.heap.size ≤ k; omega)⟩
      · exact Kd.R_mono (Kd.R_below HRG.out hb4A) (fun k hk => .inl hk)
      intro v2 W5 hS2 hB2 hg2 hat2
      obtain ⟨g2, cap2, rfl, hg2b, hg2l, cells2, hcells2⟩ := Kd.R_form hS2 (by simp)
      have hown : ∀ j, (Value.slice gra grows.length grc).ownBlock = some j → M1 j ∧ o1 j = gtag := HRG.out.1
      have hbx5 := blk_grown (blk_below hG1.box hb4A) hg2 (fun e => by have h3 := (hown W.heap.size e.symm).2; have h5 := hG1.ob; omega)
      have hgb5 := blk_grown (blk_below hgbk hb4A) hg2 (fun e => by have h3 := (hown gb e.symm).2; have h5 := (hG1.gown gb (by rw [HFM.out.1]; rfl)).2; omega)
      have hS05 : W5.cell? ⟨W.heap.size, 0, none⟩ = some (.slice (some ad) n1 c1) ∧ W5.cell? ⟨(ad.add (i * 2)).block, (ad.add (i * 2)).off + 1, none⟩ = some (.slice gra grows.length grc) ∧ W5.frozen? ⟨(ad.add (i * 2)).block, (ad.add (i * 2)).off + 1, none⟩ = false :=
        ⟨blk_cell hbx5 0, by
          have h4 := (S0 _ hb4A).2.1
          rw [HFM.out.1, add_plain] at h4 ⊢
          show W5.cell? ⟨gb, i * 2 + 1, none⟩ = _
          rw [blk_cell hgb5, ← blk_cell (blk_below hgbk hb4A)]; exact h4, by
          rw [HFM.out.1, add_plain]; exact blk_frozen hgb5 (i * 2 + 1)⟩
      refine hK.out _ _ (.inr hS05) ?_
      clear hK K
      (try simp only [Act.put, List.setIfInBounds_toArray, List.set_cons_zero, List.set_cons_succ])
      refine wpAnyR_one (i := 11) (o := ⟨some 52, _, _, _, _, _⟩) (by kernel_rfl) (by kernel_rfl) rfl (fun K hK => ?_)
      go_simp
      refine hK.out _ _ (.inr hS05) ?_
      clear hK K
      (try simp only [Act.put, List.setIfInBounds_toArray, List.set_cons_zero, List.set_cons_succ])
      refine wpAnyR_one (i := 12) (o := ⟨some 53, _, _, _, _, _⟩) (by kernel_rfl) (by kernel_rfl) rfl (fun K hK => ?_)
      go_simp
      refine hK.out _ _ (.inr hS05) ?_
      clear hK K
      (try simp only [Act.put, List.setIfInBounds_toArray, List.set_cons_zero, List.set_cons_succ])
      have hcg := hS05.2.1
      have hfg := hS05.2.2
      refine wpAnyR_one (i := 13) (o := ⟨none, _, _, _, _, _⟩) (by kernel_rfl) (by kernel_rfl) rfl (fun K hK => ?_)
      go_simp
      refine hK.out _ _ (.inl rfl) ?_
      clear hK K
      (try simp only [Act.put, List.setIfInBounds_toArray, List.set_cons_zero, List.set_cons_succ])
      refine wpAnyR_done (by kernel_rfl) ?_ _
      gi_wp2
      have happ := hG1.append hb4A i (by rw [HG1N.out]; omega) x (some ⟨g2, 0, none⟩) cap2 gb gc1 (by rw [HFM.out.1, HFM.out.2.1, HFM.out.2.2]) (by rw [HGD.out]; exact hS2) (by rw [HGD.out]; exact hg2)
      rw [HGD.out] at happ
      obtain ⟨g', hgk, hgr, hG6, hK6⟩ := happ
      obtain ⟨W6, hW6⟩ : ∃ W6, W5.setCell ⟨gb, i * 2 + 1, none⟩ (.slice (some ⟨g2, 0, none⟩) (grows ++ [x]).length cap2) = W6 := ⟨_, rfl⟩
      have hW6' : W5.setCell ⟨(ad.add (i * 2)).block, (ad.add (i * 2)).off + 1, none⟩ (.slice (some ⟨g2, 0, none⟩) (grows.length + 1) cap2) = W6 := by
        rw [← hW6, HFM.out.1, add_plain, show (grows ++ [x]).length = grows.length + 1 by simp]
      rw [hW6] at hG6 hK6
      rw [hW6']
      have hKA6 : Kpt M A W6 := hKA1.trans hK6 (M := M) (fun j hj h => by
        rcases h with h | h
        · exact h
        · rcases hM1 j h with z | z
          · exact z
          · omega)
      refine ⟨fun j => (M1 j ∨ A1.heap.size ≤ j) ∧ j < W6.heap.size, fun j hj => ⟨by rcases hj.1 with h | h; exact (hM1 j h).elim .inl (fun z => .inr (.inr z)); exact .inr (.inr (by have := hKA1.size; omega)), hj.2⟩, hKA6.mono (fun _ _ h => .inl h), _, _, _, hG6, ?_, hBW.trans (hKA6.below hBW.size (fun j _ h => (hG.mlt j h).1))⟩
      rw [HSN.out, ← HMAP.out]
      exact hset g' (by rw [hgk, HGD.out]) (by rw [hgr, HGD.out])
    | false =>
      have hf : ¬ (i < G.length ∧ ordK (G.getD i zGE).key P = 0) := of_decide_eq_false hbq.symm
      have HF := Lib.hid hf
      clear hf hbq
      have e53 : W3.cell? ⟨W.heap.size, 0, none⟩ = some (.slice GAd nG gcap) := blk_cell hG3.box 0
      gi_wp2
      obtain ⟨WB, hWB⟩ : ∃ WB, W3.alloc (.cells #[.slice KB P.length kc, .slice none 0 0] 115) = WB := ⟨_, rfl⟩
      have hbB : Below W3.heap.size W3 WB := by rw [← hWB]; exact below_alloc (Below.refl _ _) _
      have hvb : WB.heap[W3.heap.size]? = some (.cells #[.slice KB P.length kc, .slice none 0 0] tG (0, 0)) := by rw [← hWB]; exact blk_new _ _
      have hzB : WB.heap.size = W3.heap.size + 1 := by rw [← hWB]; simp
      rw [hWB]
      clear hWB
      have hABB : Below A.heap.size A WB := hb3A.trans (hbB.mono hb3A.size)
      have hGB := hG3.below hbB
      have hins := insert_any W.heap.size (.slice GAd nG gcap) (G.map GE.raw) i (.slice KB P.length kc, .slice none 0 0) W3.heap.size WB hGB.ga hvb ⟨rfl, rfl⟩ (fun e => by have := (hG3.mlt _ (hG3.gown W3.heap.size e.symm).1).2; omega) (by have := hBW.size; have := hABB.size; omega) (by rw [List.length_map, HNG.out]; omega) (by rw [List.length_map, HNG.out]; exact hi)
      refine ⟨trivial, rfl, calls_in _ _ (hins.mono ?_)⟩
      rintro e WC ⟨v', rfl, hGA', hgr', hat'⟩
      clear hins
      have hxC := blk_grown hGB.box hgr' (fun e => by have h3 := (hGB.gown W.heap.size e.symm).2; have := hGB.ob; omega)
      have hcb1 := blk_cell hxC 0
      have hcb2 := blk_frozen hxC 0
      obtain ⟨t, ht3, htf⟩ := fresh_tag G
      obtain ⟨hGst, hKst⟩ := hG.insert hABB i P KB kc v' t ht3 htf (Kd.R_below (Kd.R_below hk hb3) hbB) hGA' hgr' hat'
      have hl1 : (G.take i ++ (⟨P, [], KB, kc, none, 0, t⟩ : GE) :: G.drop i).length = nG + 1 := by
        rw [List.length_append, List.length_take, List.length_cons, List.length_drop, HNG.out]; omega
      have hget1 : (G.take i ++ (⟨P, [], KB, kc, none, 0, t⟩ : GE) :: G.drop i).getD i zGE = ⟨P, [], KB, kc, none, 0, t⟩ := by
        have hl : (G.take i).length = i := by rw [List.length_take, HNG.out]; omega
        rw [List.getD_eq_getElem?_getD, List.getElem?_append_right (by omega), hl, Nat.sub_self]; rfl
      have hglen2 : ∀ g ∈ (G.take i ++ (⟨P, [], KB, kc, none, 0, t⟩ : GE) :: G.drop i), g.rows.length ≤ pre.length := fun g hg => by
        rcases List.mem_append.1 hg with h | h
        · exact hglen g (List.mem_of_mem_take h)
        · rcases List.mem_cons.1 h with rfl | h
          · simp
          · exact hglen g (List.mem_of_mem_drop h)
      obtain ⟨A1c, n1c, hv'⟩ : ∃ A c, v' = .slice A (nG + 1) c := by
        obtain ⟨A', c', e⟩ := hGst.slice
        rw [hl1] at e
        exact ⟨A', c', e.1⟩
      subst hv'
      obtain ⟨ad, had⟩ : ∃ ad, A1c = some ad := by
        obtain ⟨ad, e, _⟩ := (hGst.cells rfl) i (by rw [hl1]; omega)
        exact ⟨ad, e⟩
      subst had
      have hrd1 := hkR _ _ _ _ _ hrd (hKst.mono (fun j hj h => ⟨by have := (hG.mlt j h).1; omega, fun hNj => (hN j hNj).2.2 h⟩))
      obtain ⟨Ad', c', hvv', _, hC1o⟩ := hrR _ _ _ _ hrd1
      obtain ⟨rfl, rfl⟩ : Ad = Ad' ∧ c = c' := by simpa using hvv'
      clear hvv' hrd1
      obtain ⟨n1, c1, G1, o1, M1, A1, hA1, hnn, hcc, hG1, hG1N, hglen1, hM1, hKA1, hC1, hset⟩ : ∃ (n1 c1 : Nat) (G1 : List GE) (o1 : Nat → Nat) (M1 : Nat → Prop) (A1 : World), WC.setCell ⟨W.heap.size, 0, none⟩ (.slice (some ad) (nG + 1) n1c) = A1 ∧ nG + 1 = n1 ∧ c1 = n1c ∧ GSt W.heap.size G1 (.slice (some ad) n1 c1) o1 M1 A1 ∧ G1.length = n1 ∧ (∀ g ∈ G1, g.rows.length ≤ pre.length) ∧ (∀ j, M1 j → M j ∨ A.heap.size ≤ j) ∧ Kpt M A A1 ∧ kS.C A1 Ad x.length x ∧
          (∀ g' : GE, g'.key = (G1.getD i zGE).key → g'.rows = (G1.getD i zGE).rows ++ [x] → (G1.set i g').map gp = addG (G.map gp) P x) :=
        ⟨_, _, _, _, _, _, rfl, rfl, rfl, hGst, hl1, hglen2, fun j h => h.1, hKst, hC1o, fun g' hk hr => fresh_map (by rw [HNG.out]; exact hi) HLH.out.1 HLH.out.2 HF.out (by rw [hk, hget1]) (by rw [hr, hget1]; rfl)⟩
      have HA1 := Lib.hid hA1
      have HNN := Lib.hid hnn
      clear hA1 hnn
      gi_wp2
      rw [HA1.out, HNN.out]
      have hnn := HNN.out
      clear hC1o
      subst hcc
      have hin : i < n1 := by omega
      have HG1N := Lib.hid hG1N
      clear hnn hG1N hG2 hG3 hGB hGst hKst hglen hglen2 hrise HLH HF HNG e5 e53 d1 hk hkC hget1 hl1 hxC hcb1 hcb2 hGA' hgr' hat' hvb hzB
      have hi1z : (i : Int) < (n1 : Int) := by omega
      have hbase1 : W.heap.size ≤ A1.heap.size := Nat.le_of_lt (hG1.mlt _ hG1.mb).2
      obtain ⟨gb, gc1, gcur, hgvf, hgc1, hgbk, _, _⟩ := hG1.form (by rw [HG1N.out]; omega)
      injection hgvf with hgad hgn hgcc
      injection hgad with hgad
      obtain ⟨ad', had', k0, k1⟩ := (hG1.cells rfl) i (by rw [HG1N.out]; omega)
      injection had' with had'
      subst had'
      obtain ⟨g, hgd⟩ : ∃ g, G1.getD i zGE = g := ⟨_, rfl⟩
      have hgm : g ∈ G1 := by rw [← hgd]; exact getD_mem _ (by rw [HG1N.out]; omega)
      rw [hgd] at k0 k1
      have hRg := hG1.rows g hgm
      have htg := hG1.tag3 g hgm
      have hgl : g.rows.length ≤ pre.length := hglen1 g hgm
      have HGD := Lib.hid hgd
      have HFM := Lib.hid (And.intro hgad (And.intro hgn hgcc))
      clear hgd hgad hgn hgcc hgm
      obtain ⟨gkey, grows, gka, gkc, gra, grc, gtag⟩ := g
      simp only [GE.raw] at k0 k1 hRg hgl htg
      have HRG := Lib.hid hRg
      clear hRg
      have S0 : ∀ V : World, Below A1.heap.size A1 V → V.cell? ⟨W.heap.size, 0, none⟩ = some (.slice (some ad) n1 c1) ∧ V.cell? ⟨(ad.add (i * 2)).block, (ad.add (i * 2)).off + 1, none⟩ = some (.slice gra grows.length grc) ∧ V.frozen? ⟨(ad.add (i * 2)).block, (ad.add (i * 2)).off + 1, none⟩ = false :=
        fun V hV => ⟨blk_cell (blk_below hG1.box hV) 0, pw_cell_below hV k1, by
          have := blk_frozen (blk_below hgbk hV) (i * 2 + 1)
          rw [HFM.out.1, add_plain]; exact this⟩
      refine wpIn_region_R 13 (S := fun V => V.cell? ⟨W.heap.size, 0, none⟩ = some (.slice (some ad) n1 c1) ∧ V.cell? ⟨(ad.add (i * 2)).block, (ad.add (i * 2)).off + 1, none⟩ = some (.slice gra grows.length grc) ∧ V.frozen? ⟨(ad.add (i * 2)).block, (ad.add (i * 2)).off + 1, none⟩ = false) (by kernel_rfl) (S0 _ (below_drew (Below.refl _ _))) (fun hS0 => ?_)
      refine wpAnyR_take (i := 0) (oi := ⟨some 41, _, _, _, _, _⟩) (v := ?_) (by kernel_rfl) (by kernel_rfl) rfl (by kernel_rfl) (by kernel_rfl) (by kernel_rfl) (fun _ _ _ h => h) (Or.inl ⟨by rfl, ?_⟩) (by assumption) ?_
      rotate_left
      · intro w hSw; (try dsimp only at hSw); (try go_split_ands); go_simp; (try (with_reducible rfl))
      (try simp only [Act.put, List.setIfInBounds_toArray, List.set_cons_zero, List.set_cons_succ])
      refine wpAnyR_take (i := 1) (oi := ⟨some 42, _, _, _, _, _⟩) (v := ?_) (by kernel_rfl) (by kernel_rfl) rfl (by kernel_rfl) (by kernel_rfl) (by kernel_rfl) (fun _ _ _ h => h) (Or.inl ⟨by rfl, ?_⟩) (by assumption) ?_
      rotate_left
      · intro w hSw; (try dsimp only at hSw); (try go_split_ands); go_simp; (try (with_reducible rfl))
      (try simp only [Act.put, List.setIfInBounds_toArray, List.set_cons_zero, List.set_cons_succ])
      refine wpAnyR_take (i := 2) (oi := ⟨some 43, _, _, _, _, _⟩) (v := ?_) (by kernel_rfl) (by kernel_rfl) rfl (by kernel_rfl) (by kernel_rfl) (by kernel_rfl) (fun _ _ _ h => h) (Or.inl ⟨by rfl, ?_⟩) (by assumption) ?_
      rotate_left
      · intro w hSw; (try dsimp only at hSw); (try go_split_ands); go_simp; (try (with_reducible rfl))
      (try simp only [Act.put, List.setIfInBounds_toArray, List.set_cons_zero, List.set_cons_succ])
      refine wpAnyR_take (i := 3) (oi := ⟨some 44, _, _, _, _, _⟩) (v := ?_) (by kernel_rfl) (by kernel_rfl) rfl (by kernel_rfl) (by kernel_rfl) (by kernel_rfl) (fun _ _ _ h => h) (Or.inl ⟨by rfl, ?_⟩) (by assumption) ?_
      rotate_left
      · intro w hSw; (try dsimp only at hSw); (try go_split_ands); go_simp; (try (with_reducible rfl))
      (try simp only [Act.put, List.setIfInBounds_toArray, List.set_cons_zero, List.set_cons_succ])
      refine wpAnyR_take (i := 4) (oi := ⟨some 45, _, _, _, _, _⟩) (v := ?_) (by kernel_rfl) (by kernel_rfl) rfl (by kernel_rfl) (by kernel_rfl) (by kernel_rfl) (fun _ _ _ h => h) (Or.inl ⟨by rfl, ?_⟩) (by assumption) ?_
      rotate_left
      · intro w hSw; (try dsimp only at hSw); (try go_split_ands); go_simp; (try (with_reducible rfl))
      (try simp only [Act.put, List.setIfInBounds_toArray, List.set_cons_zero, List.set_cons_succ])
      refine wpAnyR_take (i := 5) (oi := ⟨some 46, _, _, _, _, _⟩) (v := ?_) (by kernel_rfl) (by kernel_rfl) rfl (by kernel_rfl) (by kernel_rfl) (by kernel_rfl) (fun _ _ _ h => h) (Or.inl ⟨by rfl, ?_⟩) (by assumption) ?_
      rotate_left
      · intro w hSw; (try dsimp only at hSw); (try go_split_ands); go_simp; (try (with_reducible rfl))
      (try simp only [Act.put, List.setIfInBounds_toArray, List.set_cons_zero, List.set_cons_succ])
      refine wpAnyR_take (i := 6) (oi := ⟨some 47, _, _, _, _, _⟩) (v := ?_) (by kernel_rfl) (by kernel_rfl) rfl (by kernel_rfl) (by kernel_rfl) (by kernel_rfl) (fun _ _ _ h => h) (Or.inl ⟨by rfl, ?_⟩) (by assumption) ?_
      rotate_left
      · intro w hSw; (try dsimp only at hSw); (try go_split_ands); go_simp; (try (with_reducible rfl))
      (try simp only [Act.put, List.setIfInBounds_toArray, List.set_cons_zero, List.set_cons_succ])
      refine wpAnyR_take (i := 7) (oi := ⟨some 48, _, _, _, _, _⟩) (v := ?_) (by kernel_rfl) (by kernel_rfl) rfl (by kernel_rfl) (by kernel_rfl) (by kernel_rfl) (fun _ _ _ h => h) (Or.inl ⟨by rfl, ?_⟩) (by assumption) ?_
      rotate_left
      · intro w hSw; (try dsimp only at hSw); (try go_split_ands); go_simp; (try (with_reducible rfl))
      (try simp only [Act.put, List.setIfInBounds_toArray, List.set_cons_zero, List.set_cons_succ])
      refine wpAnyR_one (i := 8) (o := ⟨some 49, _, _, _, _, _⟩) (by kernel_rfl) (by kernel_rfl) rfl (fun K hK => ?_)
      go_simp
      refine (clone_any Ad x c A1.drew (Kd.C_drew hC1) hle (by omega)).mono ?_
      rintro e W4 ⟨v1, rfl, hR1, hb4⟩
      have hb4A : Below A1.heap.size A1 W4 := (below_drew (Below.refl _ A1)).trans hb4
      (try dsimp only)
      refine hK.out _ _ (.inr (S0 _ hb4A)) ?_
      clear hK K
      (try simp only [Act.put, List.setIfInBounds_toArray, List.set_cons_zero, List.set_cons_succ])
      obtain ⟨X1, x1c, rfl, hle1, hCx1⟩ := Kd.R_reads hR1
      refine wpAnyR_one (i := 9) (o := ⟨some 50, _, _, _, _, _⟩) (by kernel_rfl) (by kernel_rfl) rfl (fun K hK => ?_)
      go_simp
      refine hK.out _ _ (.inr (S0 _ (below_alloc hb4A _))) ?_
      clear hK K
      (try simp only [Act.put, List.setIfInBounds_toArray, List.set_cons_zero, List.set_cons_succ])
      refine wpAnyR_one (i := 10) (o := ⟨some 51, _, _, _, _, _⟩) (by kernel_rfl) (by kernel_rfl) rfl (fun K hK => ?_)
      have hzA4 : A1.heap.size ≤ W4.heap.size := hb4A.size
      refine Kd.R_append_step kRows (w0 := A1) W.heap.size (by rfl) (.tmp 47) (.tmp 50) 28 62 _ 24 rfl Tryd.underlying28 infoRow rfl (by decide) (by decide) (.slice gra grows.length grc) grows x [.slice X1 x.length x1c]
        (fun k => (M1 k ∧ o1 k = gtag) ∨ A1.heap.size ≤ k) (fun k => (Value.slice X1 x.length x1c).ownBlock = some k) rfl rfl ⟨_, rfl, RS_ok (Kd.R_lower hR1 (by show W.heap.size ≤ A1.heap.size; omega)) (fun _ h => h)⟩ ?_ (fun k hk => .inr (by omega)) ?_ (hb4A.mono (by omega)) (by omega) (by omega) ?_
      · intro k hk
        have := Kd.R_base hR1 k hk
        exact ⟨.inr this, fun e => by have h2 := Kd.R_lt HRG.out k e.symm; exact absurd this (by show ¬ A1.heap.size ≤ k; omega)⟩
      · exact Kd.R_mono (Kd.R_below HRG.out hb4A) (fun k hk => .inl hk)
      intro v2 W5 hS2 hB2 hg2 hat2
      obtain ⟨g2, cap2, rfl, hg2b, hg2l, cells2, hcells2⟩ := Kd.R_form hS2 (by simp)
      have hown : ∀ j, (Value.slice gra grows.length grc).ownBlock = some j → M1 j ∧ o1 j = gtag := HRG.out.1
      have hbx5 := blk_grown (blk_below hG1.box hb4A) hg2 (fun e => by have h3 := (hown W.heap.size e.symm).2; have h5 := hG1.ob; omega)
      have hgb5 := blk_grown (blk_below hgbk hb4A) hg2 (fun e => by have h3 := (hown gb e.symm).2; have h5 := (hG1.gown gb (by rw [HFM.out.1]; rfl)).2; omega)
      have hS05 : W5.cell? ⟨W.heap.size, 0, none⟩ = some (.slice (some ad) n1 c1) ∧ W5.cell? ⟨(ad.add (i * 2)).block, (ad.add (i * 2)).off + 1, none⟩ = some (.slice gra grows.length grc) ∧ W5.frozen? ⟨(ad.add (i * 2)).block, (ad.add (i * 2)).off + 1, none⟩ = false :=
        ⟨blk_cell hbx5 0, by
          have h4 := (S0 _ hb4A).2.1
          rw [HFM.out.1, add_plain] at h4 ⊢
          show W5.cell? ⟨gb, i * 2 + 1, none⟩ = _
          rw [blk_cell hgb5, ← blk_cell (blk_below hgbk hb4A)]; exact h4, by
          rw [HFM.out.1, add_plain]; exact blk_frozen hgb5 (i * 2 + 1)⟩
      refine hK.out _ _ (.inr hS05) ?_
      clear hK K
      (try simp only [Act.put, List.setIfInBounds_toArray, List.set_cons_zero, List.set_cons_succ])
      refine wpAnyR_one (i := 11) (o := ⟨some 52, _, _, _, _, _⟩) (by kernel_rfl) (by kernel_rfl) rfl (fun K hK => ?_)
      go_simp
      refine hK.out _ _ (.inr hS05) ?_
      clear hK K
      (try simp only [Act.put, List.setIfInBounds_toArray, List.set_cons_zero, List.set_cons_succ])
      refine wpAnyR_one (i := 12) (o := ⟨some 53, _, _, _, _, _⟩) (by kernel_rfl) (by kernel_rfl) rfl (fun K hK => ?_)
      go_simp
      refine hK.out _ _ (.inr hS05) ?_
      clear hK K
      (try simp only [Act.put, List.setIfInBounds_toArray, List.set_cons_zero, List.set_cons_succ])
      have hcg := hS05.2.1
      have hfg := hS05.2.2
      refine wpAnyR_one (i := 13) (o := ⟨none, _, _, _, _, _⟩) (by kernel_rfl) (by kernel_rfl) rfl (fun K hK => ?_)
      go_simp
      refine hK.out _ _ (.inl rfl) ?_
      clear hK K
      (try simp only [Act.put, List.setIfInBounds_toArray, List.set_cons_zero, List.set_cons_succ])
      refine wpAnyR_done (by kernel_rfl) ?_ _
      gi_wp2
      have happ := hG1.append hb4A i (by rw [HG1N.out]; omega) x (some ⟨g2, 0, none⟩) cap2 gb gc1 (by rw [HFM.out.1, HFM.out.2.1, HFM.out.2.2]) (by rw [HGD.out]; exact hS2) (by rw [HGD.out]; exact hg2)
      rw [HGD.out] at happ
      obtain ⟨g', hgk, hgr, hG6, hK6⟩ := happ
      obtain ⟨W6, hW6⟩ : ∃ W6, W5.setCell ⟨gb, i * 2 + 1, none⟩ (.slice (some ⟨g2, 0, none⟩) (grows ++ [x]).length cap2) = W6 := ⟨_, rfl⟩
      have hW6' : W5.setCell ⟨(ad.add (i * 2)).block, (ad.add (i * 2)).off + 1, none⟩ (.slice (some ⟨g2, 0, none⟩) (grows.length + 1) cap2) = W6 := by
        rw [← hW6, HFM.out.1, add_plain, show (grows ++ [x]).length = grows.length + 1 by simp]
      rw [hW6] at hG6 hK6
      rw [hW6']
      have hKA6 : Kpt M A W6 := hKA1.trans hK6 (M := M) (fun j hj h => by
        rcases h with h | h
        · exact h
        · rcases hM1 j h with z | z
          · exact z
          · omega)
      refine ⟨fun j => (M1 j ∨ A1.heap.size ≤ j) ∧ j < W6.heap.size, fun j hj => ⟨by rcases hj.1 with h | h; exact (hM1 j h).elim .inl (fun z => .inr (.inr z)); exact .inr (.inr (by have := hKA1.size; omega)), hj.2⟩, hKA6.mono (fun _ _ h => .inl h), _, _, _, hG6, ?_, hBW.trans (hKA6.below hBW.size (fun j _ h => (hG.mlt j h).1))⟩
      rw [HSN.out, ← HMAP.out]
      exact hset g' (by rw [hgk, HGD.out]) (by rw [hgr, HGD.out])
  case done =>
    intro D W2 M' hI hk hM' hD hDw hDM
    obtain ⟨G, gv, o, hG, hmap, hBW⟩ := hI
    obtain ⟨GAd, gcap, rfl, hgcap⟩ := hG.slice
    have hbwW2 : Below w.heap.size w W2 := hW.trans (hBW.mono hzw)
    have hzW2 := hBW.size
    have hglen : ∀ g ∈ G, g.rows.length ≤ xs.length ∧ g.key.length ≤ by'.length := fun g hg => by
      have hm : gp g ∈ groupsL by' xs := by rw [← hmap]; exact List.mem_map_of_mem hg
      have h := (groupsL_inv by' xs).mine (gp g) hm
      have h' : g.rows = xs.filter (mineB by' g.key) := h
      exact ⟨by rw [h']; exact List.length_filter_le _ _, Nat.le_of_eq (groupsL_klen by' xs _ hm)⟩
    have hGl : G.length ≤ xs.length + 1 := by have := groupsL_len by' xs; rw [← hmap, List.length_map] at this; exact this
    have hnxt := fun k hk => groupL_take by' aggs xs G hmap k hk
    have hall : (groupL by' aggs xs).take G.length = groupL by' aggs xs := List.take_of_length_le (by unfold groupL; rw [← hmap]; simp)
    obtain ⟨nG, hnG⟩ : ∃ nG, G.length = nG := ⟨_, rfl⟩
    rw [hnG] at hGl hgcap hnxt hall hG
    have HNG := Lib.hid hnG
    have HNX := Lib.hid hnxt
    have HALL := Lib.hid hall
    clear hnG hnxt hall hmap
    have e5 : W2.cell? ⟨W.heap.size, 0, none⟩ = some (.slice GAd nG gcap) := blk_cell hG.box 0
    have hDW : W.heap.size ≤ D := by omega
    have hD2 : D < W2.heap.size := (Array.getElem?_eq_some_iff.1 hD).1
    gi_wp2
    gi_loopw [56] (fun iv wr => ∃ (k : Nat) (Mh : Nat → Prop), iv = .int .i64 k ∧ k ≤ nG ∧ J3 J Mc (fun _ => False) W W2 ((groupL by' aggs xs).take k) Mh wr) (fun iv _ => nG - (intOf iv).toNat)
    case atStart => exact ⟨0, _, rfl, Nat.zero_le _, Mc, by simpa using hJ _ _ _ _ h0 (Kpt.of_new _ hBW), fun i => Iff.rfl, fun i hi => ⟨.inl hi, by have := hMcW i hi; omega⟩, Kpt.refl _ _⟩
    case round =>
      obtain ⟨k, Mh, rfl, hkn, hJ3⟩ := hrel
      obtain ⟨WR, rfl⟩ : ∃ WR, WR = wr := ⟨_, rfl⟩
      have hKr : Kpt (fun i => Mc i ∨ False) W2 WR := by obtain ⟨_, _, _, _, h⟩ := hJ3; exact h
      have hGr : GSt W.heap.size G (.slice GAd nG gcap) o M' WR := hG.kept hKr.size (fun j hj => hKr.block j (hG.mlt j hj).2 (fun h => by rcases h with h | h; have := hMcW j h; have := (hG.mlt j hj).1; omega; exact h))
      have hbwr : Below w.heap.size w WR := hbwW2.trans (hJ3.below (fun i h => (hMc i h).1) (fun _ h => h.elim) hbwW2.size)
      have hzr := hKr.size
      have hDk : WR.heap[D]? = some (.deferred (some [])) := hKr.at hD (fun h => by rcases h with h | h; have := hMcW D h; omega; exact h)
      by_cases hlt : k < nG
      · have hltz : (k : Int) < (nG : Int) := by omega
        obtain ⟨ad, rfl, c0, c1⟩ := (hGr.cells rfl) k (by rw [HNG.out]; omega)
        obtain ⟨g, hgd⟩ : ∃ g, G.getD k zGE = g := ⟨_, rfl⟩
        have hgm : g ∈ G := by rw [← hgd]; exact getD_mem _ (by rw [HNG.out]; omega)
        have hnx := HNX.out k hlt
        rw [hgd] at c0 c1 hnx
        obtain ⟨hkl, hkC⟩ := hGr.keyOk g hgm
        obtain ⟨_, hrl, hrC⟩ := Kd.R_reads' (hGr.rows g hgm)
        have hgl := hglen g hgm
        clear hgd hgm
        obtain ⟨gkey, grows, gka, gkc, gra, grc, gtag⟩ := g
        simp only [GE.raw] at c0 c1 hnx hkl hkC hrl hrC hgl
        have HNY := Lib.hid hnx
        clear hnx
        obtain ⟨W3, hW3⟩ : ∃ W3, WR.alloc (.cells #[.slice gka gkey.length gkc, .slice gra grows.length grc] 115) = W3 := ⟨_, rfl⟩
        have hb3 : Below WR.heap.size WR W3 := by rw [← hW3]; exact below_alloc (Below.refl _ _) _
        have hx11 : W3.heap[WR.heap.size]? = some (.cells #[.slice gka gkey.length gkc, .slice gra grows.length grc] 115 (0, 0)) := by rw [← hW3]; exact blk_new _ _
        have q60 := blk_cell hx11 0
        gi_wp2
        refine ⟨trivial, rfl, callsIn_wide.2 ?_⟩
        refine (clone_any gka gkey gkc W3 (Kd.C_below hkC hb3) hkl (by omega)).mono ?_
        rintro e W4 ⟨vo, rfl, hRo, hb4⟩
        clear hW3
        have hb4r : Below WR.heap.size WR W4 := hb3.trans (hb4.mono hb3.size)
        have hbw4 : Below w.heap.size w W4 := hbwr.trans (hb4r.mono hbwr.size)
        have d3 : W4.cell? ⟨b3, 0, none⟩ = some (.slice gA aggs.length gc) := pw_cell_below hbw4 h3
        have hx14 := blk_below hx11 hb4
        obtain ⟨OA, oc, rfl⟩ := Kd.R_slice hRo
        have hRo' : kS.R tS W4 WR.heap.size (fun k => k ≠ WR.heap.size) (.slice OA gkey.length oc) gkey := Kd.R_mono (Kd.R_lower (Kd.R_bound hRo) hb3.size) (fun k hk => by have := hk.2.1; have := blk_lt hx11; omega)
        have hz4 := hb4r.size
        clear hRo hkC q60 c0 c1
        gi_wp2
        gi_loopw [12, 65] (fun out i V => ∃ j : Nat, i = .int .i64 j ∧ j ≤ aggs.length ∧ kS.R tS V WR.heap.size (fun k => k ≠ WR.heap.size) out (gkey ++ (aggs.take j).map (fun a => toldS a grows)) ∧ Below WR.heap.size WR V ∧ V.heap[WR.heap.size]? = some (.cells #[.slice gka gkey.length gkc, .slice gra grows.length grc] 115 (0, 0))) (fun _ i _ => aggs.length - (intOf i).toNat)
        case atStart => exact ⟨0, rfl, Nat.zero_le _, by simpa using hRo', hb4r, hx14⟩
        case round =>
          obtain ⟨j, rfl, hja, hRj, hBj, hxj⟩ := hrel
          have hbwj : Below w.heap.size w wr := hbwr.trans (hBj.mono hbwr.size)
          by_cases hjl : j < aggs.length
          · refine wpIn_wide.2 ?_
            have hjz : (j : Int) < (aggs.length : Int) := by omega
            obtain ⟨ga, cs, rfl, _, hKa, hcs⟩ := Kd.C_get (Kd.C_below hag hbwj) z99 j (by omega) (by omega)
            have hop := k99_open hKa
            have hsz : kA.sz = 2 := rfl
            have hro := rowOut_snoc gkey grows aggs j hjl
            rw [Int.toNat_natCast] at hop
            obtain ⟨ag, hagd⟩ : ∃ ag, aggs.getD j z99 = ag := ⟨_, rfl⟩
            rw [hagd] at hop hro
            have a0 := hcs 0 (.int .i64 ag.f0) (by rw [hop]; rfl)
            have a1 := hcs 1 (.int .i64 ag.f1) (by rw [hop]; rfl)
            rw [hsz, Int.toNat_natCast, Nat.add_zero] at a0
            rw [hsz, Int.toNat_natCast, add_field _ _ 1 (by omega)] at a1
            clear hcs hop hKa hagd
            obtain ⟨op, col⟩ := ag
            simp only at a0 a1
            have HRO := Lib.hid hro
            clear hro
            have f0 := blk_cell (blk_alloc hxj (.cells #[.int .i64 op, .int .i64 col] 99)) 0
            have f1 := blk_cell (blk_alloc hxj (.cells #[.int .i64 op, .int .i64 col] 99)) 1
            have hll : (gkey ++ (aggs.take j).map (fun a => toldS a grows)).length ≤ 2097152 := by rw [List.length_append, List.length_map, List.length_take]; omega
            generalize gkey ++ (aggs.take j).map (fun a => toldS a grows) = LL at *
            have HRJ := Lib.hid hRj
            clear hRj
            go_wp2_with fail
            refine (told_any gka gkey.length gkc gra grows grc op col _ (Kd.C_alloc (Kd.C_below hrC hBj) _) (by omega)).mono ?_
            rintro e W5 ⟨he, hb5⟩
            have hb5' : Below wr.heap.size wr W5 := (below_alloc (Below.refl _ _) _).trans (hb5.mono (by simp))
            have hRO := HRO.out
            generalize toldS ⟨op, col⟩ grows = y at he hRO
            obtain ⟨y0, y1, y2, y3⟩ := y
            have he' : e = .returned (.agg #[.int .i64 y0, .bool y1, .int .i64 y2, .string y3]) := he
            subst he'
            have HRO2 := Lib.hid hRO
            clear he hRO HRO
            have hB5 : Below WR.heap.size WR W5 := hBj.trans (hb5'.mono hBj.size)
            have hx5j := blk_below hxj hb5'
            have hz5 := hB5.size
            have hRj5 := Kd.R_below HRJ.out hb5'
            go_wp2_with (at_builtin; refine Kd.R_append kS (w0 := WR) WR.heap.size rfl (.tmp 69) (.tmp 73) 62 61 _ 40 rfl Tryd.underlying62 infoS rfl (by decide) (by decide) u12 LL ⟨y0, y1, y2, y3⟩ [.int .i64 y0, .bool y1, .int .i64 y2, .string y3] (fun k => k ≠ WR.heap.size) (fun _ => False) rfl rfl (k61_mkM _ _ _ _) (fun _ h => h.elim) (fun k hk => by have := blk_lt hx5j; omega) hRj5 hB5 hz5 (by omega) ?_; intro v1 w1 hv1 hB1 hg1 hat1; have hx6j := blk_grown hx5j hg1 (Kd.R_away hRj5 (fun k hk => hk)))
            go_roundw
            case rel => exact ⟨j + 1, by go_num, by omega, by rw [HRO2.out]; exact hv1, hB1, hx6j⟩
            case measure => simp [intOf]; omega
          · obtain rfl : j = aggs.length := by omega
            rw [List.take_length] at hRj
            have hpp : ((groupL by' aggs xs).take k ++ [gkey ++ aggs.map (fun a => toldS a grows)]) <+: groupL by' aggs xs := by rw [← HNY.out]; exact List.take_prefix _ _
            obtain ⟨fn, tmps, assign, body, hy, hRn⟩ := hJ3.yield hcons hzW2 hBj (Kd.R_mono hRj (fun _ _ => trivial)) hpp
            gi_wp2
            refine ⟨rfl, hRn.mono ?_⟩
            rintro e W9 ⟨M9, hM9, hk9, hk9', (⟨rfl, hJ9⟩ | ⟨rfl, hJ9⟩)⟩
            · gi_wp2
              go_roundw
              case rel => exact ⟨k + 1, M9, by go_num, by omega, by rw [HNY.out]; exact hJ9⟩
              case measure => simp [intOf]; omega
            · gi_wp2
              have hDk9 : W9.heap[D]? = some (.deferred (some [])) := by
                obtain ⟨_, _, _, _, h⟩ := hJ9
                exact h.at hD (fun h => by rcases h with h | h; have := hMcW D h; omega; exact h)
              refine ⟨by simp, .inl ⟨_, _, rfl, run_takeDeferred hDk9, ?_⟩⟩
              obtain ⟨M4, h41, h42, h43⟩ := hJ9.ends hJx hMcW (fun _ h => h.elim) hBW hDW (fun h => by omega) (o := .deferred none)
              exact ⟨_, results_none rfl _ _ _, ⟨_, rfl⟩, M4, h41, h42, .inr ⟨_, hpp, h43⟩⟩
      · obtain rfl : k = nG := by omega
        rw [HALL.out] at hJ3
        gi_wp2
        refine ⟨by simp, .inl ⟨_, _, rfl, run_takeDeferred hDk, ?_⟩⟩
        obtain ⟨M4, h41, h42, h43⟩ := hJ3.ends hJ hMcW (fun _ h => h.elim) hBW hDW (fun h => by omega) (o := .deferred none)
        exact ⟨_, results_none rfl _ _ _, ⟨_, rfl⟩, M4, h41, h42, .inl h43⟩
end Go.Proofs.YtihdlalbgdighaaDoor.QV
/- exec.Group: what its iterator gives (without a key). -/
namespace Go.Proofs.YtihdlalbgdighaaDoor.QV
open Go.RowKit Go.Proofs.YtihdlalbgdighaaDoorW.PrintWords Go.Proofs.YtihdlalbgdighaaDoor.Seq Go.Shelf Go.Proofs.YtihdlalbgdighaaDoor.Op Go.Proofs.YtihdlalbgdighaaDoor.Stab
set_option linter.unusedVariables false
set_option maxRecDepth 100000
set_option linter.unusedSimpArgs false
attribute [local go_sem] Oper.semAt_some

set_option maxRecDepth 100000 in
set_option maxHeartbeats 8000000 in
theorem group_seq_nil (by' : List Int) (aggs : List Ag) (xs : List Row) (sv : Value) (b1 b2 b3 : Nat) (bA : Option Addr) (bc : Nat) (gA : Option Addr) (gc : Nat) (w : World) (hR : IsSeq w sv xs)
    (h1 : w.cell? ⟨b1, 0, none⟩ = some (.slice bA by'.length bc)) (h2 : w.cell? ⟨b2, 0, none⟩ = some sv) (h3 : w.cell? ⟨b3, 0, none⟩ = some (.slice gA aggs.length gc))
    (hby : kI.C w bA by'.length by') (hbc : by'.length ≤ bc) (hag : kA.C w gA aggs.length aggs) (hgc : aggs.length ≤ gc)
    (hb : ∀ x ∈ xs, x.length ≤ 1048576) (hn : xs.length ≤ 1048576) (hb1 : by'.length ≤ 1048576) (hb2 : aggs.length ≤ 1048576) (hcase : by' = []) :
    SeqOf Tryd.prog 55 #[.pointer (some ⟨b1, 0, none⟩), .pointer (some ⟨b2, 0, none⟩), .pointer (some ⟨b3, 0, none⟩)] (RdNew w) (groupL by' aggs xs) w := by
  intro l J Jx W Mc hW hMc hJ hJx hY h0
  have hcons : Cons Tryd.prog w W l J Jx Mc (groupL by' aggs xs) := ⟨hW, hMc, hJ, hJx, hY⟩
  have hzw : w.heap.size ≤ W.heap.size := hW.size
  have hMcW : ∀ i, Mc i → i < W.heap.size := fun i h => (hMc i h).2
  obtain ⟨gR, lbR, RdR, rfl, egR, hsR, hkR, hrR⟩ := hR
  refine (callsIn_wide (n := 0)).1 (callsIn_of_wp_marks Tryd.func55 rfl trivial ?_ rfl)
  simp only [Tryd.ntmps55, List.size_toArray, List.length_cons, List.length_nil, Nat.reduceAdd, Nat.reduceSub, Array.replicate_succ, Array.replicate_zero, List.push_toArray, List.append_toArray, List.nil_append, List.cons_append]
  have hbWa : Below W.heap.size W (W.alloc (.cells #[.slice none 0 0] 113)) := below_alloc (Below.refl _ _) _
  have d1 : (W.alloc (.cells #[.slice none 0 0] 113)).cell? ⟨b1, 0, none⟩ = some (.slice bA by'.length bc) := pw_cell_below (hW.trans (hbWa.mono hzw)) h1
  have hlb : ((by'.length : Int) == 0) = true := by rw [hcase]; rfl
  have HC := Lib.hid hcase
  clear hcase
  obtain ⟨cap, hcap⟩ : ∃ cap, (Question.appendCap 1 0 115).cut (W.tape W.drawn (Question.appendCap 1 0 115)) = cap := ⟨_, rfl⟩
  have hcap1 : 1 ≤ cap := by rw [← hcap]; exact grownCap_ge W 1 0 115
  have hcap2 : cap ≤ maxLen := by rw [← hcap]; exact grownCap_le_maxLen W 1 0 115 (by unfold maxLen; omega)
  obtain ⟨cs0, hcs0⟩ : ∃ cs0 : Array Value, #[Value.slice none 0 0, Value.slice none 0 0] ++ Builtin.zeroCells #[Value.slice none 0 0, Value.slice none 0 0] (cap - 1) = cs0 := ⟨_, rfl⟩
  obtain ⟨W1, hW1⟩ : ∃ W1, (((W.alloc (.cells #[.slice (some ⟨W.heap.size + 1 + 1, 0, none⟩) 1 cap] 113)).alloc (.cells #[.slice none 0 0, .slice none 0 0] 115)).alloc (.cells cs0 115)).drew = W1 := ⟨_, rfl⟩
  have hbW1 : Below W.heap.size W W1 := by rw [← hW1]; exact below_drew (below_alloc (below_alloc (below_alloc (Below.refl _ _) _) _) _)
  have hszW1 : W1.heap.size = W.heap.size + 3 := by rw [← hW1]; simp
  have hx5 : W1.heap[W.heap.size]? = some (.cells #[.slice (some ⟨W.heap.size + 1 + 1, 0, none⟩) 1 cap] 113 (0, 0)) := by rw [← hW1]; exact blk_drew (blk_alloc (blk_alloc (blk_new _ _) _) _)
  have hxg : W1.heap[W.heap.size + 1 + 1]? = some (.cells cs0 115 (0, 0)) := by
    have := blk_new ((W.alloc (.cells #[.slice (some ⟨W.heap.size + 1 + 1, 0, none⟩) 1 cap] 113)).alloc (.cells #[.slice none 0 0, .slice none 0 0] 115)) (.cells cs0 115)
    rw [World.size_alloc, World.size_alloc] at this
    rw [← hW1]; exact blk_drew this
  have hcsz : cs0.size = cap * 2 := by
    rw [← hcs0]
    have hc2 : (#[Value.slice none 0 0, Value.slice none 0 0] : Array Value).size = 2 := rfl
    simp only [Array.size_append, size_zeroCells, hc2]
    omega
  have hcst : cs0.toList.take (1 * 2) = fl [(.slice none 0 0, .slice none 0 0)] := by
    rw [← hcs0, Array.toList_append]
    rfl
  have d2 : W1.cell? ⟨b2, 0, none⟩ = some (.func (.func gR) #[] lbR) := pw_cell_below (hW.trans (hbW1.mono hzw)) h2
  obtain ⟨G0, gv0, o0, M0, hG0, hmap0, hM0⟩ : ∃ (G0 : List GE) (gv0 : Value) (o0 : Nat → Nat) (M0 : Nat → Prop), GSt W.heap.size G0 gv0 o0 M0 W1 ∧ G0.map gp = groupsL by' [] ∧ (∀ i, M0 i → W.heap.size ≤ i ∧ i < W1.heap.size) := by
    refine ⟨[⟨[], [], none, 0, none, 0, 3⟩], .slice (some ⟨W.heap.size + 1 + 1, 0, none⟩) 1 cap, fun i => if i = W.heap.size then 0 else 1, fun i => i = W.heap.size ∨ i = W.heap.size + 1 + 1, ⟨hx5, .inl rfl, if_pos rfl, ⟨⟨rfl, .inr ⟨_, cap, cs0, rfl, by omega, hxg, hcap1, hcap2, hcsz, hcst⟩⟩, ?_⟩, ?_, ?_, ?_, ?_, ?_, ?_⟩, by rw [HC.out]; rfl, ?_⟩
    · intro x hx
      rw [List.mem_singleton.1 hx]
      exact ⟨rfl, rfl⟩
    · intro k hk
      have : W.heap.size + 1 + 1 = k := by simpa [Value.ownBlock] using hk
      subst this
      exact ⟨.inr rfl, if_neg (by omega)⟩
    · intro g hg; rw [List.mem_singleton.1 hg]; exact Nat.le_refl _
    · simp
    · intro g hg; rw [List.mem_singleton.1 hg]; exact Kd.R_nil _ _ _ _ _
    · intro g hg; rw [List.mem_singleton.1 hg]; exact Kd.R_nil _ _ _ _ _
    · intro k hk; omega
    · intro k hk; omega
  gi_wp2
  clear hW1 hcs0 hcap d1 hcst
  refine wpIn_range (gf := gR) (lb := lbR) rfl egR hsR (hW.trans (hbW1.mono hzw)) (fun A N x vs h => by obtain ⟨Ad, c, rfl, _⟩ := hrR _ _ _ _ h; rfl) hkR
    (GrpJ W by') (fun _ _ _ _ => False) (fun pre M A B h hk => h.kept (fun i h => by omega) hk) (fun _ _ _ _ _ h _ => h)
    M0 ?hM ?h0 (fun x vs a₁ M A => ∃ v, vs = #[v] ∧ a₁ = { tmps := #[.func (.yield l) #[] #[], .pointer (some ⟨b1, 0, none⟩), .pointer (some ⟨b2, 0, none⟩), .pointer (some ⟨b3, 0, none⟩), undef, .pointer (some ⟨W.heap.size, 0, none⟩), v, undef, undef, undef, undef, undef, undef, undef, undef, .slice bA by'.length bc, .int .i64 by'.length, .bool true, .slice none 0 0, .agg #[.slice none 0 0, .slice none 0 0], .slice (some ⟨W.heap.size + 1, 0, none⟩) 1 1, .slice (some ⟨W.heap.size + 1 + 1, 0, none⟩) 1 cap, .func (.func gR) #[] lbR, v] ++ Array.replicate 57 undef, defers := [] })
    (fun _ _ _ _ _ _ h _ => h) ?assign ?body ?done ?stop
  case hM => exact fun i hi => ⟨Nat.le_trans hzw (hM0 i hi).1, (hM0 i hi).2⟩
  case h0 => exact ⟨G0, gv0, o0, hG0, hmap0, hbW1⟩
  case stop =>
    intro D c pre W M' hpre h
    exact h.elim
  case assign =>
    intro l2 pre x vs N A M hI hpre hrd hM hN
    obtain ⟨Ad, c, rfl, hle, hC⟩ := hrR _ _ _ _ hrd
    gi_wp2
    refine ⟨M, fun i hi => ⟨.inl hi, (hM i hi).2⟩, Kpt.refl _ _, hI, _, rfl, ?_⟩
    simp only [List.size_toArray, List.length_cons, List.length_nil, Nat.reduceAdd, Nat.reduceSub, Array.replicate_succ, Array.replicate_zero, List.push_toArray, List.append_toArray, List.nil_append, List.cons_append]
  case body =>
    intro l2 pre x vs N A M a₁ hI hpre hrd hax hM hN
    obtain ⟨v, rfl, rfl⟩ := hax
    simp only [List.size_toArray, List.length_cons, List.length_nil, Nat.reduceAdd, Nat.reduceSub, Array.replicate_succ, Array.replicate_zero, List.push_toArray, List.append_toArray, List.nil_append, List.cons_append]
    obtain ⟨G, gv, o, hG, hmap, hBW⟩ := hI
    obtain ⟨Ad, c, hvv, hle, hC⟩ := hrR _ _ _ _ hrd
    obtain rfl : v = .slice Ad x.length c := by simpa using hvv
    clear hvv
    have hx1 := hb x (hpre.subset (by simp))
    have hlen : pre.length + 1 ≤ xs.length := by have := hpre.length_le; simpa using this
    have hglen : ∀ g ∈ G, g.rows.length ≤ pre.length := fun g hg => by
      have h := (groupsL_inv by' pre).mine (gp g) (by rw [← hmap]; exact List.mem_map_of_mem hg)
      have h' : g.rows = pre.filter (mineB by' g.key) := h
      rw [h']; exact List.length_filter_le _ _
    have hGl : G.length ≤ pre.length + 1 := by have := groupsL_len by' pre; rw [← hmap, List.length_map] at this; exact this
    have hrise := rise_of hmap
    obtain ⟨GAd, gcap, rfl, hgcap⟩ := hG.slice
    have hbA : Below w.heap.size w A := hW.trans (hBW.mono hzw)
    have d1 : A.cell? ⟨b1, 0, none⟩ = some (.slice bA by'.length bc) := pw_cell_below hbA h1
    obtain ⟨kp, hkp⟩ := picked_f x by' (by omega)
    have hsn := groupsL_snoc by' pre x
    obtain ⟨P, hP⟩ : ∃ P, pickS x by' = P := ⟨_, rfl⟩
    rw [hP] at hkp hsn
    have HSN := Lib.hid hsn
    have HMAP := Lib.hid hmap
    clear hsn hP hmap
    obtain ⟨nG, hnG⟩ : ∃ nG, G.length = nG := ⟨_, rfl⟩
    have HNG := Lib.hid hnG
    rw [hnG] at hGl hgcap hG
    gi_wp2
    refine ⟨trivial, rfl, calls_in _ _ ((exec_picked.calls kp Ad c x bA bc by' P A hC hle (Kd.C_below hby hbA) hbc hkp).mono ?_)⟩
    rintro e W2 ⟨vk, rfl, hk, hb2⟩
    obtain ⟨KB, kc, rfl, hkle, hkC⟩ := Kd.R_reads hk
    have hG2 := hG.below hb2
    have e5 : W2.cell? ⟨W.heap.size, 0, none⟩ = some (.slice GAd nG gcap) := blk_cell hG2.box 0
    gi_wp2
    have hsr := searchG_any GAd G gcap P KB kc W2 (hG2.cells rfl) hG2.keyOk hkC hkle hrise (by omega)
    rw [hnG] at hsr
    clear hnG
    refine ⟨trivial, rfl, calls_in _ _ (hsr.mono ?_)⟩
    rintro e W3 ⟨i, b, rfl, hi, hlo, hhi, hbq, hb3⟩
    rw [HNG.out] at hi
    clear hsr
    have HLH := Lib.hid (And.intro hlo hhi)
    clear hlo hhi
    have hb3A : Below A.heap.size A W3 := hb2.trans (hb3.mono hb2.size)
    have hG3 := hG2.below hb3
    cases b with
    | true =>
      have hf : i < G.length ∧ ordK (G.getD i zGE).key P = 0 := of_decide_eq_true hbq.symm
      have hin : i < nG := by rw [← HNG.out]; exact hf.1
      have HF := Lib.hid hf
      clear hf hbq
      obtain ⟨ad, had⟩ : ∃ ad, GAd = some ad := by
        obtain ⟨ad, e, _⟩ := (hG3.cells rfl) i HF.out.1
        exact ⟨ad, e⟩
      subst had
      obtain ⟨n1, c1, G1, o1, M1, A1, hA1, hnn, hcc, hG1, hG1N, hglen1, hM1, hKA1, hC1, hset⟩ : ∃ (n1 c1 : Nat) (G1 : List GE) (o1 : Nat → Nat) (M1 : Nat → Prop) (A1 : World), A1 = W3 ∧ n1 = nG ∧ c1 = gcap ∧ GSt W.heap.size G1 (.slice (some ad) n1 c1) o1 M1 A1 ∧ G1.length = n1 ∧ (∀ g ∈ G1, g.rows.length ≤ pre.length) ∧ (∀ j, M1 j → M j ∨ A.heap.size ≤ j) ∧ Kpt M A A1 ∧ kS.C A1 Ad x.length x ∧
          (∀ g' : GE, g'.key = (G1.getD i zGE).key → g'.rows = (G1.getD i zGE).rows ++ [x] → (G1.set i g').map gp = addG (G.map gp) P x) :=
        ⟨_, _, G, o, M, W3, rfl, rfl, rfl, hG3, HNG.out, hglen, fun j h => .inl h, Kpt.of_new M hb3A, Kd.C_below hC hb3A, fun g' hk hr => found_map (by rw [HNG.out]; exact hi) HLH.out.1 HLH.out.2 HF.out hk hr⟩
      subst hA1 hnn hcc
      have HG1N := Lib.hid hG1N
      clear hG1N
      gi_wp2
      clear hG2 hG3 hglen hrise HLH HF HNG e5 d1 hk hkC
      have hi1z : (i : Int) < (n1 : Int) := by omega
      have hbase1 : W.heap.size ≤ A1.heap.size := Nat.le_of_lt (hG1.mlt _ hG1.mb).2
      obtain ⟨gb, gc1, gcur, hgvf, hgc1, hgbk, _, _⟩ := hG1.form (by rw [HG1N.out]; omega)
      injection hgvf with hgad hgn hgcc
      injection hgad with hgad
      obtain ⟨ad', had', k0, k1⟩ := (hG1.cells rfl) i (by rw [HG1N.out]; omega)
      injection had' with had'
      subst had'
      obtain ⟨g, hgd⟩ : ∃ g, G1.getD i zGE = g := ⟨_, rfl⟩
      have hgm : g ∈ G1 := by rw [← hgd]; exact getD_mem _ (by rw [HG1N.out]; omega)
      rw [hgd] at k0 k1
      have hRg := hG1.rows g hgm
      have htg := hG1.tag3 g hgm
      have hgl : g.rows.length ≤ pre.length := hglen1 g hgm
      have HGD := Lib.hid hgd
      have HFM := Lib.hid (And.intro hgad (And.intro hgn hgcc))
      clear hgd hgad hgn hgcc hgm
      obtain ⟨gkey, grows, gka, gkc, gra, grc, gtag⟩ := g
      simp only [GE.raw] at k0 k1 hRg hgl htg
      have HRG := Lib.hid hRg
      clear hRg
      have S0 : ∀ V : World, Below A1.heap.size A1 V → V.cell? ⟨W.heap.size, 0, none⟩ = some (.slice (some ad) n1 c1) ∧ V.cell? ⟨(ad.add (i * 2)).block, (ad.add (i * 2)).off + 1, none⟩ = some (.slice gra grows.length grc) ∧ V.frozen? ⟨(ad.add (i * 2)).block, (ad.add (i * 2)).off + 1, none⟩ = false :=
        fun V hV => ⟨blk_cell (blk_below hG1.box hV) 0, pw_cell_below hV k1, by
          have := blk_frozen (blk_below hgbk hV) (i * 2 + 1)
          rw [HFM.out.1, add_plain]; exact this⟩
      refine wpIn_region_R 13 (S := fun V => V.cell? ⟨W.heap.size, 0, none⟩ = some (.slice (some ad) n1 c1) ∧ V.cell? ⟨(ad.add (i * 2)).block, (ad.add (i * 2)).off + 1, none⟩ = some (.slice gra grows.length grc) ∧ V.frozen? ⟨(ad.add (i * 2)).block, (ad.add (i * 2)).off + 1, none⟩ = false) (by kernel_rfl) (S0 _ (below_drew (Below.refl _ _))) (fun hS0 => ?_)
      refine wpAnyR_take (i := 0) (oi := ⟨some 41, _, _, _, _, _⟩) (v := ?_) (by kernel_rfl) (by kernel_rfl) rfl (by kernel_rfl) (by kernel_rfl) (by kernel_rfl) (fun _ _ _ h => h) (Or.inl ⟨by rfl, ?_⟩) (by assumption) ?_
      rotate_left
      · intro w hSw; (try dsimp only at hSw); (try go_split_ands); go_simp; (try (with_reducible rfl))
      (try simp only [Act.put, List.setIfInBounds_toArray, List.set_cons_zero, List.set_cons_succ])
      refine wpAnyR_take (i := 1) (oi := ⟨some 42, _, _, _, _, _⟩) (v := ?_) (by kernel_rfl) (by kernel_rfl) rfl (by kernel_rfl) (by kernel_rfl) (by kernel_rfl) (fun _ _ _ h => h) (Or.inl ⟨by rfl, ?_⟩) (by assumption) ?_
      rotate_left
      · intro w hSw; (try dsimp only at hSw); (try go_split_ands); go_simp; (try (with_reducible rfl))
      (try simp only [Act.put, List.setIfInBounds_toArray, List.set_cons_zero, List.set_cons_succ])
      refine wpAnyR_take (i := 2) (oi := ⟨some 43, _, _, _, _, _⟩) (v := ?_) (by kernel_rfl) (by kernel_rfl) rfl (by kernel_rfl) (by kernel_rfl) (by kernel_rfl) (fun _ _ _ h => h) (Or.inl ⟨by rfl, ?_⟩) (by assumption) ?_
      rotate_left
      · intro w hSw; (try dsimp only at hSw); (try go_split_ands); go_simp; (try (with_reducible rfl))
      (try simp only [Act.put, List.setIfInBounds_toArray, List.set_cons_zero, List.set_cons_succ])
      refine wpAnyR_take (i := 3) (oi := ⟨some 44, _, _, _, _, _⟩) (v := ?_) (by kernel_rfl) (by kernel_rfl) rfl (by kernel_rfl) (by kernel_rfl) (by kernel_rfl) (fun _ _ _ h => h) (Or.inl ⟨by rfl, ?_⟩) (by assumption) ?_
      rotate_left
      · intro w hSw; (try dsimp only at hSw); (try go_split_ands); go_simp; (try (with_reducible rfl))
      (try simp only [Act.put, List.setIfInBounds_toArray, List.set_cons_zero, List.set_cons_succ])
      refine wpAnyR_take (i := 4) (oi := ⟨some 45, _, _, _, _, _⟩) (v := ?_) (by kernel_rfl) (by kernel_rfl) rfl (by kernel_rfl) (by kernel_rfl) (by kernel_rfl) (fun _ _ _ h => h) (Or.inl ⟨by rfl, ?_⟩) (by assumption) ?_
      rotate_left
      · intro w hSw; (try dsimp only at hSw); (try go_split_ands); go_simp; (try (with_reducible rfl))
      (try simp only [Act.put, List.setIfInBounds_toArray, List.set_cons_zero, List.set_cons_succ])
      refine wpAnyR_take (i := 5) (oi := ⟨some 46, _, _, _, _, _⟩) (v := ?_) (by kernel_rfl) (by kernel_rfl) rfl (by kernel_rfl) (by kernel_rfl) (by kernel_rfl) (fun _ _ _ h => h) (Or.inl ⟨by rfl, ?_⟩) (by assumption) ?_
      rotate_left
      · intro w hSw; (try dsimp only at hSw); (try go_split_ands); go_simp; (try (with_reducible rfl))
      (try simp only [Act.put, List.setIfInBounds_toArray, List.set_cons_zero, List.set_cons_succ])
      refine wpAnyR_take (i := 6) (oi := ⟨some 47, _, _, _, _, _⟩) (v := ?_) (by kernel_rfl) (by kernel_rfl) rfl (by kernel_rfl) (by kernel_rfl) (by kernel_rfl) (fun _ _ _ h => h) (Or.inl ⟨by rfl, ?_⟩) (by assumption) ?_
      rotate_left
      · intro w hSw; (try dsimp only at hSw); (try go_split_ands); go_simp; (try (with_reducible rfl))
      (try simp only [Act.put, List.setIfInBounds_toArray, List.set_cons_zero, List.set_cons_succ])
      refine wpAnyR_take (i := 7) (oi := ⟨some 48, _, _, _, _, _⟩) (v := ?_) (by kernel_rfl) (by kernel_rfl) rfl (by kernel_rfl) (by kernel_rfl) (by kernel_rfl) (fun _ _ _ h => h) (Or.inl ⟨by rfl, ?_⟩) (by assumption) ?_
      rotate_left
      · intro w hSw; (try dsimp only at hSw); (try go_split_ands); go_simp; (try (with_reducible rfl))
      (try simp only [Act.put, List.setIfInBounds_toArray, List.set_cons_zero, List.set_cons_succ])
      refine wpAnyR_one (i := 8) (o := ⟨some 49, _, _, _, _, _⟩) (by kernel_rfl) (by kernel_rfl) rfl (fun K hK => ?_)
      go_simp
      refine (clone_any Ad x c A1.drew (Kd.C_drew hC1) hle (by omega)).mono ?_
      rintro e W4 ⟨v1, rfl, hR1, hb4⟩
      have hb4A : Below A1.heap.size A1 W4 := (below_drew (Below.refl _ A1)).trans hb4
      (try dsimp only)
      refine hK.out _ _ (.inr (S0 _ hb4A)) ?_
      clear hK K
      (try simp only [Act.put, List.setIfInBounds_toArray, List.set_cons_zero, List.set_cons_succ])
      obtain ⟨X1, x1c, rfl, hle1, hCx1⟩ := Kd.R_reads hR1
      refine wpAnyR_one (i := 9) (o := ⟨some 50, _, _, _, _, _⟩) (by kernel_rfl) (by kernel_rfl) rfl (fun K hK => ?_)
      go_simp
      refine hK.out _ _ (.inr (S0 _ (below_alloc hb4A _))) ?_
      clear hK K
      (try simp only [Act.put, List.setIfInBounds_toArray, List.set_cons_zero, List.set_cons_succ])
      refine wpAnyR_one (i := 10) (o := ⟨some 51, _, _, _, _, _⟩) (by kernel_rfl) (by kernel_rfl) rfl (fun K hK => ?_)
      have hzA4 : A1.heap.size ≤ W4.heap.size := hb4A.size
      refine Kd.R_append_step kRows (w0 := A1) W.heap.size (by rfl) (.tmp 47) (.tmp 50) 28 62 _ 24 rfl Tryd.underlying28 infoRow rfl (by decide) (by decide) (.slice gra grows.length grc) grows x [.slice X1 x.length x1c]
        (fun k => (M1 k ∧ o1 k = gtag) ∨ A1.heap.size ≤ k) (fun k => (Value.slice X1 x.length x1c).ownBlock = some k) rfl rfl ⟨_, rfl, RS_ok (Kd.R_lower hR1 (by show W.heap.size ≤ A1.heap.size; omega)) (fun _ h => h)⟩ ?_ (fun k hk => .inr (by omega)) ?_ (hb4A.mono (by omega)) (by omega) (by omega) ?_
      · intro k hk
        have := Kd.R_base hR1 k hk
        exact ⟨.inr this, fun e => by have h2 := Kd.R_lt HRG.out k e.symm; exact absurd this (by show ¬ A1.heap.size ≤ k; omega)⟩
      · exact Kd.R_mono (Kd.R_below HRG.out hb4A) (fun k hk => .inl hk)
      intro v2 W5 hS2 hB2 hg2 hat2
      obtain ⟨g2, cap2, rfl, hg2b, hg2l, cells2, hcells2⟩ := Kd.R_form hS2 (by simp)
      have hown : ∀ j, (Value.slice gra grows.length grc).ownBlock = some j → M1 j ∧ o1 j = gtag := HRG.out.1
      have hbx5 := blk_grown (blk_below hG1.box hb4A) hg2 (fun e => by have h3 := (hown W.heap.size e.symm).2; have h5 := hG1.ob; omega)
      have hgb5 := blk_grown (blk_below hgbk hb4A) hg2 (fun e => by have h3 := (hown gb e.symm).2; have h5 := (hG1.gown gb (by rw [HFM.out.1]; rfl)).2; omega)
      have hS05 : W5.cell? ⟨W.heap.size, 0, none⟩ = some (.slice (some ad) n1 c1) ∧ W5.cell? ⟨(ad.add (i * 2)).block, (ad.add (i * 2)).off + 1, none⟩ = some (.slice gra grows.length grc) ∧ W5.frozen? ⟨(ad.add (i * 2)).block, (ad.add (i * 2)).off + 1, none⟩ = false :=
        ⟨blk_cell hbx5 0, by
          have h4 := (S0 _ hb4A).2.1
          rw [HFM.out.1, add_plain] at h4 ⊢
          show W5.cell? ⟨gb, i * 2 + 1, none⟩ = _
          rw [blk_cell hgb5, ← blk_cell (blk_below hgbk hb4A)]; exact h4, by
          rw [HFM.out.1, add_plain]; exact blk_frozen hgb5 (i * 2 + 1)⟩
      refine hK.out _ _ (.inr hS05) ?_
      clear hK K
      (try simp only [Act.put, List.setIfInBounds_toArray, List.set_cons_zero, List.set_cons_succ])
      refine wpAnyR_one (i := 11) (o := ⟨some 52, _, _, _, _, _⟩) (by kernel_rfl) (by kernel_rfl) rfl (fun K hK => ?_)
      go_simp
      refine hK.out _ _ (.inr hS05) ?_
      clear hK K
      (try simp only [Act.put, List.setIfInBounds_toArray, List.set_cons_zero, List.set_cons_succ])
      refine wpAnyR_one (i := 12) (o := ⟨some 53, _, _, _, _, _⟩) (by kernel_rfl) (by kernel_rfl) rfl (fun K hK => ?_)
      go_simp
      refine hK.out _ _ (.inr hS05) ?_
      clear hK K
      (try simp only [Act.put, List.setIfInBounds_toArray, List.set_cons_zero, List.set_cons_succ])
      have hcg := hS05.2.1
      have hfg := hS05.2.2
      refine wpAnyR_one (i := 13) (o := ⟨none, _, _, _, _, _⟩) (by kernel_rfl) (by kernel_rfl) rfl (fun K hK => ?_)
      go_simp
      refine hK.out _ _ (.inl rfl) ?_
      clear hK K
      (try simp only [Act.put, List.setIfInBounds_toArray, List.set_cons_zero, List.set_cons_succ])
      refine wpAnyR_done (by kernel_rfl) ?_ _
      gi_wp2
      have happ := hG1.append hb4A i (by rw [HG1N.out]; omega) x (some ⟨g2, 0, none⟩) cap2 gb gc1 (by rw [HFM.out.1, HFM.out.2.1, HFM.out.2.2]) (by rw [HGD.out]; exact hS2) (by rw [HGD.out]; exact hg2)
      rw [HGD.out] at happ
      obtain ⟨g', hgk, hgr, hG6, hK6⟩ := happ
      obtain ⟨W6, hW6⟩ : ∃ W6, W5.setCell ⟨gb, i * 2 + 1, none⟩ (.slice (some ⟨g2, 0, none⟩) (grows ++ [x]).length cap2) = W6 := ⟨_, rfl⟩
      have hW6' : W5.setCell ⟨(ad.add (i * 2)).block, (ad.add (i * 2)).off + 1, none⟩ (.slice (some ⟨g2, 0, none⟩) (grows.length + 1) cap2) = W6 := by
        rw [← hW6, HFM.out.1, add_plain, show (grows ++ [x]).length = grows.length + 1 by simp]
      rw [hW6] at hG6 hK6
      rw [hW6']
      have hKA6 : Kpt M A W6 := hKA1.trans hK6 (M := M) (fun j hj h => by
        rcases h with h | h
        · exact h
        · rcases hM1 j h with z | z
          · exact z
          · omega)
      refine ⟨fun j => (M1 j ∨ A1.heap.size ≤ j) ∧ j < W6.heap.size, fun j hj => ⟨by rcases hj.1 with h | h; exact (hM1 j h).elim .inl (fun z => .inr (.inr z)); exact .inr (.inr (by have := hKA1.size; omega)), hj.2⟩, hKA6.mono (fun _ _ h => .inl h), _, _, _, hG6, ?_, hBW.trans (hKA6.below hBW.size (fun j _ h => (hG.mlt j h).1))⟩
      rw [HSN.out, ← HMAP.out]
      exact hset g' (by rw [hgk, HGD.out]) (by rw [hgr, HGD.out])
    | false =>
      have hf : ¬ (i < G.length ∧ ordK (G.getD i zGE).key P = 0) := of_decide_eq_false hbq.symm
      have HF := Lib.hid hf
      clear hf hbq
      have e53 : W3.cell? ⟨W.heap.size, 0, none⟩ = some (.slice GAd nG gcap) := blk_cell hG3.box 0
      gi_wp2
      obtain ⟨WB, hWB⟩ : ∃ WB, W3.alloc (.cells #[.slice KB P.length kc, .slice none 0 0] 115) = WB := ⟨_, rfl⟩
      have hbB : Below W3.heap.size W3 WB := by rw [← hWB]; exact below_alloc (Below.refl _ _) _
      have hvb : WB.heap[W3.heap.size]? = some (.cells #[.slice KB P.length kc, .slice none 0 0] tG (0, 0)) := by rw [← hWB]; exact blk_new _ _
      have hzB : WB.heap.size = W3.heap.size + 1 := by rw [← hWB]; simp
      rw [hWB]
      clear hWB
      have hABB : Below A.heap.size A WB := hb3A.trans (hbB.mono hb3A.size)
      have hGB := hG3.below hbB
      have hins := insert_any W.heap.size (.slice GAd nG gcap) (G.map GE.raw) i (.slice KB P.length kc, .slice none 0 0) W3.heap.size WB hGB.ga hvb ⟨rfl, rfl⟩ (fun e => by have := (hG3.mlt _ (hG3.gown W3.heap.size e.symm).1).2; omega) (by have := hBW.size; have := hABB.size; omega) (by rw [List.length_map, HNG.out]; omega) (by rw [List.length_map, HNG.out]; exact hi)
      refine ⟨trivial, rfl, calls_in _ _ (hins.mono ?_)⟩
      rintro e WC ⟨v', rfl, hGA', hgr', hat'⟩
      clear hins
      have hxC := blk_grown hGB.box hgr' (fun e => by have h3 := (hGB.gown W.heap.size e.symm).2; have := hGB.ob; omega)
      have hcb1 := blk_cell hxC 0
      have hcb2 := blk_frozen hxC 0
      obtain ⟨t, ht3, htf⟩ := fresh_tag G
      obtain ⟨hGst, hKst⟩ := hG.insert hABB i P KB kc v' t ht3 htf (Kd.R_below (Kd.R_below hk hb3) hbB) hGA' hgr' hat'
      have hl1 : (G.take i ++ (⟨P, [], KB, kc, none, 0, t⟩ : GE) :: G.drop i).length = nG + 1 := by
        rw [List.length_append, List.length_take, List.length_cons, List.length_drop, HNG.out]; omega
      have hget1 : (G.take i ++ (⟨P, [], KB, kc, none, 0, t⟩ : GE) :: G.drop i).getD i zGE = ⟨P, [], KB, kc, none, 0, t⟩ := by
        have hl : (G.take i).length = i := by rw [List.length_take, HNG.out]; omega
        rw [List.getD_eq_getElem?_getD, List.getElem?_append_right (by omega), hl, Nat.sub_self]; rfl
      have hglen2 : ∀ g ∈ (G.take i ++ (⟨P, [], KB, kc, none, 0, t⟩ : GE) :: G.drop i), g.rows.length ≤ pre.length := fun g hg => by
        rcases List.mem_append.1 hg with h | h
        · exact hglen g (List.mem_of_mem_take h)
        · rcases List.mem_cons.1 h with rfl | h
          · simp
          · exact hglen g (List.mem_of_mem_drop h)
      obtain ⟨A1c, n1c, hv'⟩ : ∃ A c, v' = .slice A (nG + 1) c := by
        obtain ⟨A', c', e⟩ := hGst.slice
        rw [hl1] at e
        exact ⟨A', c', e.1⟩
      subst hv'
      obtain ⟨ad, had⟩ : ∃ ad, A1c = some ad := by
        obtain ⟨ad, e, _⟩ := (hGst.cells rfl) i (by rw [hl1]; omega)
        exact ⟨ad, e⟩
      subst had
      have hrd1 := hkR _ _ _ _ _ hrd (hKst.mono (fun j hj h => ⟨by have := (hG.mlt j h).1; omega, fun hNj => (hN j hNj).2.2 h⟩))
      obtain ⟨Ad', c', hvv', _, hC1o⟩ := hrR _ _ _ _ hrd1
      obtain ⟨rfl, rfl⟩ : Ad = Ad' ∧ c = c' := by simpa using hvv'
      clear hvv' hrd1
      obtain ⟨n1, c1, G1, o1, M1, A1, hA1, hnn, hcc, hG1, hG1N, hglen1, hM1, hKA1, hC1, hset⟩ : ∃ (n1 c1 : Nat) (G1 : List GE) (o1 : Nat → Nat) (M1 : Nat → Prop) (A1 : World), WC.setCell ⟨W.heap.size, 0, none⟩ (.slice (some ad) (nG + 1) n1c) = A1 ∧ nG + 1 = n1 ∧ c1 = n1c ∧ GSt W.heap.size G1 (.slice (some ad) n1 c1) o1 M1 A1 ∧ G1.length = n1 ∧ (∀ g ∈ G1, g.rows.length ≤ pre.length) ∧ (∀ j, M1 j → M j ∨ A.heap.size ≤ j) ∧ Kpt M A A1 ∧ kS.C A1 Ad x.length x ∧
          (∀ g' : GE, g'.key = (G1.getD i zGE).key → g'.rows = (G1.getD i zGE).rows ++ [x] → (G1.set i g').map gp = addG (G.map gp) P x) :=
        ⟨_, _, _, _, _, _, rfl, rfl, rfl, hGst, hl1, hglen2, fun j h => h.1, hKst, hC1o, fun g' hk hr => fresh_map (by rw [HNG.out]; exact hi) HLH.out.1 HLH.out.2 HF.out (by rw [hk, hget1]) (by rw [hr, hget1]; rfl)⟩
      have HA1 := Lib.hid hA1
      have HNN := Lib.hid hnn
      clear hA1 hnn
      gi_wp2
      rw [HA1.out, HNN.out]
      have hnn := HNN.out
      clear hC1o
      subst hcc
      have hin : i < n1 := by omega
      have HG1N := Lib.hid hG1N
      clear hnn hG1N hG2 hG3 hGB hGst hKst hglen hglen2 hrise HLH HF HNG e5 e53 d1 hk hkC hget1 hl1 hxC hcb1 hcb2 hGA' hgr' hat' hvb hzB
      have hi1z : (i : Int) < (n1 : Int) := by omega
      have hbase1 : W.heap.size ≤ A1.heap.size := Nat.le_of_lt (hG1.mlt _ hG1.mb).2
      obtain ⟨gb, gc1, gcur, hgvf, hgc1, hgbk, _, _⟩ := hG1.form (by rw [HG1N.out]; omega)
      injection hgvf with hgad hgn hgcc
      injection hgad with hgad
      obtain ⟨ad', had', k0, k1⟩ := (hG1.cells rfl) i (by rw [HG1N.out]; omega)
      injection had' with had'
      subst had'
      obtain ⟨g, hgd⟩ : ∃ g, G1.getD i zGE = g := ⟨_, rfl⟩
      have hgm : g ∈ G1 := by rw [← hgd]; exact getD_mem _ (by rw [HG1N.out]; omega)
      rw [hgd] at k0 k1
      have hRg := hG1.rows g hgm
      have htg := hG1.tag3 g hgm
      have hgl : g.rows.length ≤ pre.length := hglen1 g hgm
      have HGD := Lib.hid hgd
      have HFM := Lib.hid (And.intro hgad (And.intro hgn hgcc))
      clear hgd hgad hgn hgcc hgm
      obtain ⟨gkey, grows, gka, gkc, gra, grc, gtag⟩ := g
      simp only [GE.raw] at k0 k1 hRg hgl htg
      have HRG := Lib.hid hRg
      clear hRg
      have S0 : ∀ V : World, Below A1.heap.size A1 V → V.cell? ⟨W.heap.size, 0, none⟩ = some (.slice (some ad) n1 c1) ∧ V.cell? ⟨(ad.add (i * 2)).block, (ad.add (i * 2)).off + 1, none⟩ = some (.slice gra grows.length grc) ∧ V.frozen? ⟨(ad.add (i * 2)).block, (ad.add (i * 2)).off + 1, none⟩ = false :=
        fun V hV => ⟨blk_cell (blk_below hG1.box hV) 0, pw_cell_below hV k1, by
          have := blk_frozen (blk_below hgbk hV) (i * 2 + 1)
          rw [HFM.out.1, add_plain]; exact this⟩
      refine wpIn_region_R 13 (S := fun V => V.cell? ⟨W.heap.size, 0, none⟩ = some (.slice (some ad) n1 c1) ∧ V.cell? ⟨(ad.add (i * 2)).block, (ad.add (i * 2)).off + 1, none⟩ = some (.slice gra grows.length grc) ∧ V.frozen? ⟨(ad.add (i * 2)).block, (ad.add (i * 2)).off + 1, none⟩ = false) (by kernel_rfl) (S0 _ (below_drew (Below.refl _ _))) (fun hS0 => ?_)
      refine wpAnyR_take (i := 0) (oi := ⟨some 41, _, _, _, _, _⟩) (v := ?_) (by kernel_rfl) (by kernel_rfl) rfl (by kernel_rfl) (by kernel_rfl) (by kernel_rfl) (fun _ _ _ h => h) (Or.inl ⟨by rfl, ?_⟩) (by assumption) ?_
      rotate_left
      · intro w hSw; (try dsimp only at hSw); (try go_split_ands); go_simp; (try (with_reducible rfl))
      (try simp only [Act.put, List.setIfInBounds_toArray, List.set_cons_zero, List.set_cons_succ])
      refine wpAnyR_take (i := 1) (oi := ⟨some 42, _, _, _, _, _⟩) (v := ?_) (by kernel_rfl) (by kernel_rfl) rfl (by kernel_rfl) (by kernel_rfl) (by kernel_rfl) (fun _ _ _ h => h) (Or.inl ⟨by rfl, ?_⟩) (by assumption) ?_
      rotate_left
      · intro w hSw; (try dsimp only at hSw); (try go_split_ands); go_simp; (try (with_reducible rfl))
      (try simp only [Act.put, List.setIfInBounds_toArray, List.set_cons_zero, List.set_cons_succ])
      refine wpAnyR_take (i := 2) (oi := ⟨some 43, _, _, _, _, _⟩) (v := ?_) (by kernel_rfl) (by kernel_rfl) rfl (by kernel_rfl) (by kernel_rfl) (by kernel_rfl) (fun _ _ _ h => h) (Or.inl ⟨by rfl, ?_⟩) (by assumption) ?_
      rotate_left
      · intro w hSw; (try dsimp only at hSw); (try go_split_ands); go_simp; (try (with_reducible rfl))
      (try simp only [Act.put, List.setIfInBounds_toArray, List.set_cons_zero, List.set_cons_succ])
      refine wpAnyR_take (i := 3) (oi := ⟨some 44, _, _, _, _, _⟩) (v := ?_) (by kernel_rfl) (by kernel_rfl) rfl (by kernel_rfl) (by kernel_rfl) (by kernel_rfl) (fun _ _ _ h => h) (Or.inl ⟨by rfl, ?_⟩) (by assumption) ?_
      rotate_left
      · intro w hSw; (try dsimp only at hSw); (try go_split_ands); go_simp; (try (with_reducible rfl))
      (try simp only [Act.put, List.setIfInBounds_toArray, List.set_cons_zero, List.set_cons_succ])
      refine wpAnyR_take (i := 4) (oi := ⟨some 45, _, _, _, _, _⟩) (v := ?_) (by kernel_rfl) (by kernel_rfl) rfl (by kernel_rfl) (by kernel_rfl) (by kernel_rfl) (fun _ _ _ h => h) (Or.inl ⟨by rfl, ?_⟩) (by assumption) ?_
      rotate_left
      · intro w hSw; (try dsimp only at hSw); (try go_split_ands); go_simp; (try (with_reducible rfl))
      (try simp only [Act.put, List.setIfInBounds_toArray, List.set_cons_zero, List.set_cons_succ])
      refine wpAnyR_take (i := 5) (oi := ⟨some 46, _, _, _, _, _⟩) (v := ?_) (by kernel_rfl) (by kernel_rfl) rfl (by kernel_rfl) (by kernel_rfl) (by kernel_rfl) (fun _ _ _ h => h) (Or.inl ⟨by rfl, ?_⟩) (by assumption) ?_
      rotate_left
      · intro w hSw; (try dsimp only at hSw); (try go_split_ands); go_simp; (try (with_reducible rfl))
      (try simp only [Act.put, List.setIfInBounds_toArray, List.set_cons_zero, List.set_cons_succ])
      refine wpAnyR_take (i := 6) (oi := ⟨some 47, _, _, _, _, _⟩) (v := ?_) (by kernel_rfl) (by kernel_rfl) rfl (by kernel_rfl) (by kernel_rfl) (by kernel_rfl) (fun _ _ _ h => h) (Or.inl ⟨by rfl, ?_⟩) (by assumption) ?_
      rotate_left
      · intro w hSw; (try dsimp only at hSw); (try go_split_ands); go_simp; (try (with_reducible rfl))
      (try simp only [Act.put, List.setIfInBounds_toArray, List.set_cons_zero, List.set_cons_succ])
      refine wpAnyR_take (i := 7) (oi := ⟨some 48, _, _, _, _, _⟩) (v := ?_) (by kernel_rfl) (by kernel_rfl) rfl (by kernel_rfl) (by kernel_rfl) (by kernel_rfl) (fun _ _ _ h => h) (Or.inl ⟨by rfl, ?_⟩) (by assumption) ?_
      rotate_left
      · intro w hSw; (try dsimp only at hSw); (try go_split_ands); go_simp; (try (with_reducible rfl))
      (try simp only [Act.put, List.setIfInBounds_toArray, List.set_cons_zero, List.set_cons_succ])
      refine wpAnyR_one (i := 8) (o := ⟨some 49, _, _, _, _, _⟩) (by kernel_rfl) (by kernel_rfl) rfl (fun K hK => ?_)
      go_simp
      refine (clone_any Ad x c A1.drew (Kd.C_drew hC1) hle (by omega)).mono ?_
      rintro e W4 ⟨v1, rfl, hR1, hb4⟩
      have hb4A : Below A1.heap.size A1 W4 := (below_drew (Below.refl _ A1)).trans hb4
      (try dsimp only)
      refine hK.out _ _ (.inr (S0 _ hb4A)) ?_
      clear hK K
      (try simp only [Act.put, List.setIfInBounds_toArray, List.set_cons_zero, List.set_cons_succ])
      obtain ⟨X1, x1c, rfl, hle1, hCx1⟩ := Kd.R_reads hR1
      refine wpAnyR_one (i := 9) (o := ⟨some 50, _, _, _, _, _⟩) (by kernel_rfl) (by kernel_rfl) rfl (fun K hK => ?_)
      go_simp
      refine hK.out _ _ (.inr (S0 _ (below_alloc hb4A _))) ?_
      clear hK K
      (try simp only [Act.put, List.setIfInBounds_toArray, List.set_cons_zero, List.set_cons_succ])
      refine wpAnyR_one (i := 10) (o := ⟨some 51, _, _, _, _, _⟩) (by kernel_rfl) (by kernel_rfl) rfl (fun K hK => ?_)
      have hzA4 : A1.heap.size ≤ W4.heap.size := hb4A.size
      refine Kd.R_append_step kRows (w0 := A1) W.heap.size (by rfl) (.tmp 47) (.tmp 50) 28 62 _ 24 rfl Tryd.underlying28 infoRow rfl (by decide) (by decide) (.slice gra grows.length grc) grows x [.slice X1 x.length x1c]
        (fun k => (M1 k ∧ o1 k = gtag) ∨ A1.heap.size ≤ k) (fun k => (Value.slice X1 x.length x1c).ownBlock = some k) rfl rfl ⟨_, rfl, RS_ok (Kd.R_lower hR1 (by show W.heap.size ≤ A1.heap.size; omega)) (fun _ h => h)⟩ ?_ (fun k hk => .inr (by omega)) ?_ (hb4A.mono (by omega)) (by omega) (by omega) ?_
      · intro k hk
        have := Kd.R_base hR1 k hk
        exact ⟨.inr this, fun e => by have h2 := Kd.R_lt HRG.out k e.symm; exact absurd this (by show ¬ A1.heap.size ≤ k; omega)⟩
      · exact Kd.R_mono (Kd.R_below HRG.out hb4A) (fun k hk => .inl hk)
      intro v2 W5 hS2 hB2 hg2 hat2
      obtain ⟨g2, cap2, rfl, hg2b, hg2l, cells2, hcells2⟩ := Kd.R_form hS2 (by simp)
      have hown : ∀ j, (Value.slice gra grows.length grc).ownBlock = some j → M1 j ∧ o1 j = gtag := HRG.out.1
      have hbx5 := blk_grown (blk_below hG1.box hb4A) hg2 (fun e => by have h3 := (hown W.heap.size e.symm).2; have h5 := hG1.ob; omega)
      have hgb5 := blk_grown (blk_below hgbk hb4A) hg2 (fun e => by have h3 := (hown gb e.symm).2; have h5 := (hG1.gown gb (by rw [HFM.out.1]; rfl)).2; omega)
      have hS05 : W5.cell? ⟨W.heap.size, 0, none⟩ = some (.slice (some ad) n1 c1) ∧ W5.cell? ⟨(ad.add (i * 2)).block, (ad.add (i * 2)).off + 1, none⟩ = some (.slice gra grows.length grc) ∧ W5.frozen? ⟨(ad.add (i * 2)).block, (ad.add (i * 2)).off + 1, none⟩ = false :=
        ⟨blk_cell hbx5 0, by
          have h4 := (S0 _ hb4A).2.1
          rw [HFM.out.1, add_plain] at h4 ⊢
          show W5.cell? ⟨gb, i * 2 + 1, none⟩ = _
          rw [blk_cell hgb5, ← blk_cell (blk_below hgbk hb4A)]; exact h4, by
          rw [HFM.out.1, add_plain]; exact blk_frozen hgb5 (i * 2 + 1)⟩
      refine hK.out _ _ (.inr hS05) ?_
      clear hK K
      (try simp only [Act.put, List.setIfInBounds_toArray, List.set_cons_zero, List.set_cons_succ])
      refine wpAnyR_one (i := 11) (o := ⟨some 52, _, _, _, _, _⟩) (by kernel_rfl) (by kernel_rfl) rfl (fun K hK => ?_)
      go_simp
      refine hK.out _ _ (.inr hS05) ?_
      clear hK K
      (try simp only [Act.put, List.setIfInBounds_toArray, List.set_cons_zero, List.set_cons_succ])
      refine wpAnyR_one (i := 12) (o := ⟨some 53, _, _, _, _, _⟩) (by kernel_rfl) (by kernel_rfl) rfl (fun K hK => ?_)
      go_simp
      refine hK.out _ _ (.inr hS05) ?_
      clear hK K
      (try simp only [Act.put, List.setIfInBounds_toArray, List.set_cons_zero, List.set_cons_succ])
      have hcg := hS05.2.1
      have hfg := hS05.2.2
      refine wpAnyR_one (i := 13) (o := ⟨none, _, _, _, _, _⟩) (by kernel_rfl) (by kernel_rfl) rfl (fun K hK => ?_)
      go_simp
      refine hK.out _ _ (.inl rfl) ?_
      clear hK K
      (try simp only [Act.put, List.setIfInBounds_toArray, List.set_cons_zero, List.set_cons_succ])
      refine wpAnyR_done (by kernel_rfl) ?_ _
      gi_wp2
      have happ := hG1.append hb4A i (by rw [HG1N.out]; omega) x (some ⟨g2, 0, none⟩) cap2 gb gc1 (by rw [HFM.out.1, HFM.out.2.1, HFM.out.2.2]) (by rw [HGD.out]; exact hS2) (by rw [HGD.out]; exact hg2)
      rw [HGD.out] at happ
      obtain ⟨g', hgk, hgr, hG6, hK6⟩ := happ
      obtain ⟨W6, hW6⟩ : ∃ W6, W5.setCell ⟨gb, i * 2 + 1, none⟩ (.slice (some ⟨g2, 0, none⟩) (grows ++ [x]).length cap2) = W6 := ⟨_, rfl⟩
      have hW6' : W5.setCell ⟨(ad.add (i * 2)).block, (ad.add (i * 2)).off + 1, none⟩ (.slice (some ⟨g2, 0, none⟩) (grows.length + 1) cap2) = W6 := by
        rw [← hW6, HFM.out.1, add_plain, show (grows ++ [x]).length = grows.length + 1 by simp]
      rw [hW6] at hG6 hK6
      rw [hW6']
      have hKA6 : Kpt M A W6 := hKA1.trans hK6 (M := M) (fun j hj h => by
        rcases h with h | h
        · exact h
        · rcases hM1 j h with z | z
          · exact z
          · omega)
      refine ⟨fun j => (M1 j ∨ A1.heap.size ≤ j) ∧ j < W6.heap.size, fun j hj => ⟨by rcases hj.1 with h | h; exact (hM1 j h).elim .inl (fun z => .inr (.inr z)); exact .inr (.inr (by have := hKA1.size; omega)), hj.2⟩, hKA6.mono (fun _ _ h => .inl h), _, _, _, hG6, ?_, hBW.trans (hKA6.below hBW.size (fun j _ h => (hG.mlt j h).1))⟩
      rw [HSN.out, ← HMAP.out]
      exact hset g' (by rw [hgk, HGD.out]) (by rw [hgr, HGD.out])
  case done =>
    intro D W2 M' hI hk hM' hD hDw hDM
    obtain ⟨G, gv, o, hG, hmap, hBW⟩ := hI
    obtain ⟨GAd, gcap, rfl, hgcap⟩ := hG.slice
    have hbwW2 : Below w.heap.size w W2 := hW.trans (hBW.mono hzw)
    have hzW2 := hBW.size
    have hglen : ∀ g ∈ G, g.rows.length ≤ xs.length ∧ g.key.length ≤ by'.length := fun g hg => by
      have hm : gp g ∈ groupsL by' xs := by rw [← hmap]; exact List.mem_map_of_mem hg
      have h := (groupsL_inv by' xs).mine (gp g) hm
      have h' : g.rows = xs.filter (mineB by' g.key) := h
      exact ⟨by rw [h']; exact List.length_filter_le _ _, Nat.le_of_eq (groupsL_klen by' xs _ hm)⟩
    have hGl : G.length ≤ xs.length + 1 := by have := groupsL_len by' xs; rw [← hmap, List.length_map] at this; exact this
    have hnxt := fun k hk => groupL_take by' aggs xs G hmap k hk
    have hall : (groupL by' aggs xs).take G.length = groupL by' aggs xs := List.take_of_length_le (by unfold groupL; rw [← hmap]; simp)
    obtain ⟨nG, hnG⟩ : ∃ nG, G.length = nG := ⟨_, rfl⟩
    rw [hnG] at hGl hgcap hnxt hall hG
    have HNG := Lib.hid hnG
    have HNX := Lib.hid hnxt
    have HALL := Lib.hid hall
    clear hnG hnxt hall hmap
    have e5 : W2.cell? ⟨W.heap.size, 0, none⟩ = some (.slice GAd nG gcap) := blk_cell hG.box 0
    have hDW : W.heap.size ≤ D := by omega
    have hD2 : D < W2.heap.size := (Array.getElem?_eq_some_iff.1 hD).1
    gi_wp2
    gi_loopw [56] (fun iv wr => ∃ (k : Nat) (Mh : Nat → Prop), iv = .int .i64 k ∧ k ≤ nG ∧ J3 J Mc (fun _ => False) W W2 ((groupL by' aggs xs).take k) Mh wr) (fun iv _ => nG - (intOf iv).toNat)
    case atStart => exact ⟨0, _, rfl, Nat.zero_le _, Mc, by simpa using hJ _ _ _ _ h0 (Kpt.of_new _ hBW), fun i => Iff.rfl, fun i hi => ⟨.inl hi, by have := hMcW i hi; omega⟩, Kpt.refl _ _⟩
    case round =>
      obtain ⟨k, Mh, rfl, hkn, hJ3⟩ := hrel
      obtain ⟨WR, rfl⟩ : ∃ WR, WR = wr := ⟨_, rfl⟩
      have hKr : Kpt (fun i => Mc i ∨ False) W2 WR := by obtain ⟨_, _, _, _, h⟩ := hJ3; exact h
      have hGr : GSt W.heap.size G (.slice GAd nG gcap) o M' WR := hG.kept hKr.size (fun j hj => hKr.block j (hG.mlt j hj).2 (fun h => by rcases h with h | h; have := hMcW j h; have := (hG.mlt j hj).1; omega; exact h))
      have hbwr : Below w.heap.size w WR := hbwW2.trans (hJ3.below (fun i h => (hMc i h).1) (fun _ h => h.elim) hbwW2.size)
      have hzr := hKr.size
      have hDk : WR.heap[D]? = some (.deferred (some [])) := hKr.at hD (fun h => by rcases h with h | h; have := hMcW D h; omega; exact h)
      by_cases hlt : k < nG
      · have hltz : (k : Int) < (nG : Int) := by omega
        obtain ⟨ad, rfl, c0, c1⟩ := (hGr.cells rfl) k (by rw [HNG.out]; omega)
        obtain ⟨g, hgd⟩ : ∃ g, G.getD k zGE = g := ⟨_, rfl⟩
        have hgm : g ∈ G := by rw [← hgd]; exact getD_mem _ (by rw [HNG.out]; omega)
        have hnx := HNX.out k hlt
        rw [hgd] at c0 c1 hnx
        obtain ⟨hkl, hkC⟩ := hGr.keyOk g hgm
        obtain ⟨_, hrl, hrC⟩ := Kd.R_reads' (hGr.rows g hgm)
        have hgl := hglen g hgm
        clear hgd hgm
        obtain ⟨gkey, grows, gka, gkc, gra, grc, gtag⟩ := g
        simp only [GE.raw] at c0 c1 hnx hkl hkC hrl hrC hgl
        have HNY := Lib.hid hnx
        clear hnx
        obtain ⟨W3, hW3⟩ : ∃ W3, WR.alloc (.cells #[.slice gka gkey.length gkc, .slice gra grows.length grc] 115) = W3 := ⟨_, rfl⟩
        have hb3 : Below WR.heap.size WR W3 := by rw [← hW3]; exact below_alloc (Below.refl _ _) _
        have hx11 : W3.heap[WR.heap.size]? = some (.cells #[.slice gka gkey.length gkc, .slice gra grows.length grc] 115 (0, 0)) := by rw [← hW3]; exact blk_new _ _
        have q60 := blk_cell hx11 0
        gi_wp2
        refine ⟨trivial, rfl, callsIn_wide.2 ?_⟩
        refine (clone_any gka gkey gkc W3 (Kd.C_below hkC hb3) hkl (by omega)).mono ?_
        rintro e W4 ⟨vo, rfl, hRo, hb4⟩
        clear hW3
        have hb4r : Below WR.heap.size WR W4 := hb3.trans (hb4.mono hb3.size)
        have hbw4 : Below w.heap.size w W4 := hbwr.trans (hb4r.mono hbwr.size)
        have d3 : W4.cell? ⟨b3, 0, none⟩ = some (.slice gA aggs.length gc) := pw_cell_below hbw4 h3
        have hx14 := blk_below hx11 hb4
        obtain ⟨OA, oc, rfl⟩ := Kd.R_slice hRo
        have hRo' : kS.R tS W4 WR.heap.size (fun k => k ≠ WR.heap.size) (.slice OA gkey.length oc) gkey := Kd.R_mono (Kd.R_lower (Kd.R_bound hRo) hb3.size) (fun k hk => by have := hk.2.1; have := blk_lt hx11; omega)
        have hz4 := hb4r.size
        clear hRo hkC q60 c0 c1
        gi_wp2
        gi_loopw [12, 65] (fun out i V => ∃ j : Nat, i = .int .i64 j ∧ j ≤ aggs.length ∧ kS.R tS V WR.heap.size (fun k => k ≠ WR.heap.size) out (gkey ++ (aggs.take j).map (fun a => toldS a grows)) ∧ Below WR.heap.size WR V ∧ V.heap[WR.heap.size]? = some (.cells #[.slice gka gkey.length gkc, .slice gra grows.length grc] 115 (0, 0))) (fun _ i _ => aggs.length - (intOf i).toNat)
        case atStart => exact ⟨0, rfl, Nat.zero_le _, by simpa using hRo', hb4r, hx14⟩
        case round =>
          obtain ⟨j, rfl, hja, hRj, hBj, hxj⟩ := hrel
          have hbwj : Below w.heap.size w wr := hbwr.trans (hBj.mono hbwr.size)
          by_cases hjl : j < aggs.length
          · refine wpIn_wide.2 ?_
            have hjz : (j : Int) < (aggs.length : Int) := by omega
            obtain ⟨ga, cs, rfl, _, hKa, hcs⟩ := Kd.C_get (Kd.C_below hag hbwj) z99 j (by omega) (by omega)
            have hop := k99_open hKa
            have hsz : kA.sz = 2 := rfl
            have hro := rowOut_snoc gkey grows aggs j hjl
            rw [Int.toNat_natCast] at hop
            obtain ⟨ag, hagd⟩ : ∃ ag, aggs.getD j z99 = ag := ⟨_, rfl⟩
            rw [hagd] at hop hro
            have a0 := hcs 0 (.int .i64 ag.f0) (by rw [hop]; rfl)
            have a1 := hcs 1 (.int .i64 ag.f1) (by rw [hop]; rfl)
            rw [hsz, Int.toNat_natCast, Nat.add_zero] at a0
            rw [hsz, Int.toNat_natCast, add_field _ _ 1 (by omega)] at a1
            clear hcs hop hKa hagd
            obtain ⟨op, col⟩ := ag
            simp only at a0 a1
            have HRO := Lib.hid hro
            clear hro
            have f0 := blk_cell (blk_alloc hxj (.cells #[.int .i64 op, .int .i64 col] 99)) 0
            have f1 := blk_cell (blk_alloc hxj (.cells #[.int .i64 op, .int .i64 col] 99)) 1
            have hll : (gkey ++ (aggs.take j).map (fun a => toldS a grows)).length ≤ 2097152 := by rw [List.length_append, List.length_map, List.length_take]; omega
            generalize gkey ++ (aggs.take j).map (fun a => toldS a grows) = LL at *
            have HRJ := Lib.hid hRj
            clear hRj
            go_wp2_with fail
            refine (told_any gka gkey.length gkc gra grows grc op col _ (Kd.C_alloc (Kd.C_below hrC hBj) _) (by omega)).mono ?_
            rintro e W5 ⟨he, hb5⟩
            have hb5' : Below wr.heap.size wr W5 := (below_alloc (Below.refl _ _) _).trans (hb5.mono (by simp))
            have hRO := HRO.out
            generalize toldS ⟨op, col⟩ grows = y at he hRO
            obtain ⟨y0, y1, y2, y3⟩ := y
            have he' : e = .returned (.agg #[.int .i64 y0, .bool y1, .int .i64 y2, .string y3]) := he
            subst he'
            have HRO2 := Lib.hid hRO
            clear he hRO HRO
            have hB5 : Below WR.heap.size WR W5 := hBj.trans (hb5'.mono hBj.size)
            have hx5j := blk_below hxj hb5'
            have hz5 := hB5.size
            have hRj5 := Kd.R_below HRJ.out hb5'
            go_wp2_with (at_builtin; refine Kd.R_append kS (w0 := WR) WR.heap.size rfl (.tmp 69) (.tmp 73) 62 61 _ 40 rfl Tryd.underlying62 infoS rfl (by decide) (by decide) u12 LL ⟨y0, y1, y2, y3⟩ [.int .i64 y0, .bool y1, .int .i64 y2, .string y3] (fun k => k ≠ WR.heap.size) (fun _ => False) rfl rfl (k61_mkM _ _ _ _) (fun _ h => h.elim) (fun k hk => by have := blk_lt hx5j; omega) hRj5 hB5 hz5 (by omega) ?_; intro v1 w1 hv1 hB1 hg1 hat1; have hx6j := blk_grown hx5j hg1 (Kd.R_away hRj5 (fun k hk => hk)))
            go_roundw
            case rel => exact ⟨j + 1, by go_num, by omega, by rw [HRO2.out]; exact hv1, hB1, hx6j⟩
            case measure => simp [intOf]; omega
          · obtain rfl : j = aggs.length := by omega
            rw [List.take_length] at hRj
            have hpp : ((groupL by' aggs xs).take k ++ [gkey ++ aggs.map (fun a => toldS a grows)]) <+: groupL by' aggs xs := by rw [← HNY.out]; exact List.take_prefix _ _
            obtain ⟨fn, tmps, assign, body, hy, hRn⟩ := hJ3.yield hcons hzW2 hBj (Kd.R_mono hRj (fun _ _ => trivial)) hpp
            gi_wp2
            refine ⟨rfl, hRn.mono ?_⟩
            rintro e W9 ⟨M9, hM9, hk9, hk9', (⟨rfl, hJ9⟩ | ⟨rfl, hJ9⟩)⟩
            · gi_wp2
              go_roundw
              case rel => exact ⟨k + 1, M9, by go_num, by omega, by rw [HNY.out]; exact hJ9⟩
              case measure => simp [intOf]; omega
            · gi_wp2
              have hDk9 : W9.heap[D]? = some (.deferred (some [])) := by
                obtain ⟨_, _, _, _, h⟩ := hJ9
                exact h.at hD (fun h => by rcases h with h | h; have := hMcW D h; omega; exact h)
              refine ⟨by simp, .inl ⟨_, _, rfl, run_takeDeferred hDk9, ?_⟩⟩
              obtain ⟨M4, h41, h42, h43⟩ := hJ9.ends hJx hMcW (fun _ h => h.elim) hBW hDW (fun h => by omega) (o := .deferred none)
              exact ⟨_, results_none rfl _ _ _, ⟨_, rfl⟩, M4, h41, h42, .inr ⟨_, hpp, h43⟩⟩
      · obtain rfl : k = nG := by omega
        rw [HALL.out] at hJ3
        gi_wp2
        refine ⟨by simp, .inl ⟨_, _, rfl, run_takeDeferred hDk, ?_⟩⟩
        obtain ⟨M4, h41, h42, h43⟩ := hJ3.ends hJ hMcW (fun _ h => h.elim) hBW hDW (fun h => by omega) (o := .deferred none)
        exact ⟨_, results_none rfl _ _ _, ⟨_, rfl⟩, M4, h41, h42, .inl h43⟩
end Go.Proofs.YtihdlalbgdighaaDoor.QV
/- exec.Group as a function. -/
namespace Go.Proofs.YtihdlalbgdighaaDoor.QV
open Go.RowKit Go.Proofs.YtihdlalbgdighaaDoorW.PrintWords Go.Proofs.YtihdlalbgdighaaDoor.SeqW Go.Shelf Go.Proofs.YtihdlalbgdighaaDoor.Op
set_option linter.unusedVariables false
set_option maxRecDepth 100000
set_option linter.unusedSimpArgs false
attribute [local go_sem] Oper.semAt_some

set_option maxHeartbeats 1000000 in
theorem clone_ags (A : Option Addr) (l : List Ag) (c : Nat) (w : World) (hr : kA.C w A l.length l) (hc : l.length ≤ c) (hb : l.length * 16 ≤ 140737488355328) :
    Calls Tryd.prog 54 #[.slice A l.length c] w fun e w' => ∃ v, e = .returned v ∧ kA.R 99 w' w.heap.size (fun _ => True) v l ∧ Below w.heap.size w w' := by
  cases A with
  | none =>
    have hl : l = [] := by
      cases l with
      | nil => rfl
      | cons x l => obtain ⟨ad, e, _⟩ := hr.2.2 (by simp); cases e
    subst hl
    have hn := Lib.run_eql_slice_nil (P := Tryd.prog)
    go_enter Tryd.func54, Tryd.ntmps54
    go_wp2
    go_ret
    exact ⟨_, rfl, Kd.R_nil _ _ _ _ _, Below.refl _ _⟩
  | some ad => exact clone_aggs ad l c w hr hc hb
set_option maxHeartbeats 2000000 in
theorem group_is (xs : List Row) (by' : List Int) (aggs : List Ag) (bA : Option Addr) (bc : Nat) (gA : Option Addr) (gc : Nat) (sv : Value) (w : World) (hR : IsSeq w sv xs)
    (hby : kI.C w bA by'.length by') (hbc : by'.length ≤ bc) (hag : kA.C w gA aggs.length aggs) (hgc : aggs.length ≤ gc)
    (hb : ∀ x ∈ xs, x.length ≤ 1048576) (hn : xs.length ≤ 1048576) (hb1' : by'.length ≤ 1048576) (hb2'' : aggs.length ≤ 1048576) :
    Calls Tryd.prog 26 #[sv, .slice bA by'.length bc, .slice gA aggs.length gc] w fun e w' => ∃ v, e = .returned v ∧ IsOwn w' v (groupL by' aggs xs) ∧ Below w.heap.size w w' := by
  obtain ⟨gR, lbR, RdR, rfl, qR⟩ := hR
  have hR : IsSeq w (.func (.func gR) #[] lbR) xs := ⟨gR, lbR, RdR, rfl, qR⟩
  clear qR
  go_enter Tryd.func26, Tryd.ntmps26
  go_wp2_with fail
  obtain ⟨w1, hw1⟩ : ∃ w1, ((w.alloc (.cells #[.func (.func gR) #[] lbR] 65)).alloc (.cells #[.slice bA by'.length bc] 23)).alloc (.cells #[.slice gA aggs.length gc] 24) = w1 := ⟨_, rfl⟩
  rw [hw1]
  have hb1 : Below w.heap.size w w1 := by rw [← hw1]; exact below_alloc (below_alloc (below_alloc (Below.refl _ _) _) _) _
  have g0 : w1.heap[w.heap.size]? = some (.cells #[.func (.func gR) #[] lbR] 65 (0, 0)) := by rw [← hw1]; exact blk_alloc (blk_alloc (blk_new _ _) _) _
  have g1 : w1.heap[w.heap.size + 1]? = some (.cells #[.slice bA by'.length bc] 23 (0, 0)) := by
    have := blk_new (w.alloc (.cells #[.func (.func gR) #[] lbR] 65)) (.cells #[.slice bA by'.length bc] 23)
    rw [World.size_alloc] at this
    rw [← hw1]; exact blk_alloc this _
  have g2 : w1.heap[w.heap.size + 1 + 1]? = some (.cells #[.slice gA aggs.length gc] 24 (0, 0)) := by
    have := blk_new ((w.alloc (.cells #[.func (.func gR) #[] lbR] 65)).alloc (.cells #[.slice bA by'.length bc] 23)) (.cells #[.slice gA aggs.length gc] 24)
    rw [World.size_alloc, World.size_alloc] at this
    rw [← hw1]; exact this
  clear hw1
  have hz1 := blk_lt g2
  have S0 : ∀ V, Below w1.heap.size w1 V → V.cell? ⟨w.heap.size + 1 + 1, 0, none⟩ = some (.slice gA aggs.length gc) ∧ V.frozen? ⟨w.heap.size + 1, 0, none⟩ = false ∧ V.frozen? ⟨w.heap.size + 1 + 1, 0, none⟩ = false :=
    fun V hV => ⟨blk_cell (blk_below g2 hV) 0, blk_frozen (blk_below g1 hV) 0, blk_frozen (blk_below g2 hV) 0⟩
  refine (wpIn_wide (n := 0)).1 ?_
  refine wpIn_region_R (l := 0) 5 (S := fun V => V.cell? ⟨w.heap.size + 1 + 1, 0, none⟩ = some (.slice gA aggs.length gc) ∧ V.frozen? ⟨w.heap.size + 1, 0, none⟩ = false ∧ V.frozen? ⟨w.heap.size + 1 + 1, 0, none⟩ = false) (by kernel_rfl) (S0 _ (below_drew (Below.refl _ _))) (fun hS0 => ?_)
  have c01 : w1.drew.cell? ⟨w.heap.size + 1, 0, none⟩ = some (.slice bA by'.length bc) := blk_cell (blk_drew g1) 0
  refine wpAnyR_take (i := 2) (oi := ⟨some 9, _, _, _, _, _⟩) (v := ?_) (by kernel_rfl) (by kernel_rfl) rfl (by kernel_rfl) (by kernel_rfl) (by kernel_rfl) (fun _ _ _ h => h) (Or.inl ⟨by rfl, ?_⟩) (by assumption) ?_
  rotate_left
  · intro w hSw; (try dsimp only at hSw); (try go_split_ands); go_simp; (try (with_reducible rfl))
  (try simp only [Act.put, List.setIfInBounds_toArray, List.set_cons_zero, List.set_cons_succ])
  refine wpAnyR_one (i := 0) (o := ⟨some 7, _, _, _, _, _⟩) (by kernel_rfl) (by kernel_rfl) rfl (fun K hK => ?_)
  go_simp
  refine hK.out _ _ (.inr (S0 _ (below_drew (Below.refl _ _)))) ?_
  clear hK K
  (try simp only [Act.put, List.setIfInBounds_toArray, List.set_cons_zero, List.set_cons_succ])
  refine wpAnyR_one (i := 1) (o := ⟨some 8, _, _, _, _, _⟩) (by kernel_rfl) (by kernel_rfl) rfl (fun K hK => ?_)
  go_simp
  refine (clone_ints bA by' bc _ (Kd.C_drew (Kd.C_below hby hb1)) hbc (by omega)).mono ?_
  rintro e w2 ⟨v1, rfl, hR1, hb2⟩
  have hb2' : Below w1.heap.size w1 w2 := (below_drew (Below.refl _ w1)).trans hb2
  (try dsimp only)
  refine hK.out _ _ (.inr (S0 _ hb2')) ?_
  clear hK K
  (try simp only [Act.put, List.setIfInBounds_toArray, List.set_cons_zero, List.set_cons_succ])
  obtain ⟨A2, c2, rfl, hle2, hC2⟩ := Kd.R_reads hR1
  refine wpAnyR_one (i := 3) (o := ⟨some 10, _, _, _, _, _⟩) (by kernel_rfl) (by kernel_rfl) rfl (fun K hK => ?_)
  go_simp
  have hbw2 : Below w.heap.size w w2 := hb1.trans (hb2'.mono hb1.size)
  refine (clone_ags gA aggs gc _ (Kd.C_below hag hbw2) hgc (by omega)).mono ?_
  rintro e w3 ⟨v2, rfl, hR2, hb3⟩
  have hb3' : Below w1.heap.size w1 w3 := hb2'.trans (hb3.mono hb2'.size)
  (try dsimp only)
  have hS3 := S0 _ hb3'
  refine hK.out _ _ (.inr hS3) ?_
  clear hK K
  (try simp only [Act.put, List.setIfInBounds_toArray, List.set_cons_zero, List.set_cons_succ])
  obtain ⟨A3, c3, rfl, hle3, hC3⟩ := Kd.R_reads hR2
  have hC2' := Kd.C_below hC2 hb3
  obtain ⟨q2, q3, q4⟩ := hS3
  have q1 : w3.cell? ⟨w.heap.size + 1, 0, none⟩ = some (.slice bA by'.length bc) := blk_cell (blk_below g1 hb3') 0
  refine wpAnyR_one (i := 4) (o := ⟨none, _, _, _, _, _⟩) (by kernel_rfl) (by kernel_rfl) rfl (fun K hK => ?_)
  go_simp
  obtain ⟨w4, hw4⟩ : ∃ w4, w3.setCell ⟨w.heap.size + 1, 0, none⟩ (.slice A2 by'.length c2) = w4 := ⟨_, rfl⟩
  rw [hw4]
  have hk4 : Seq.Kpt (fun i => i = w.heap.size + 1) w3 w4 := by rw [← hw4]; exact Seq.Kpt.setCell w3 ⟨w.heap.size + 1, 0, none⟩ _
  have g14 : w4.heap[w.heap.size + 1]? = some (.cells #[.slice A2 by'.length c2] 23 (0, 0)) := by rw [← hw4]; simpa using blk_set (blk_below g1 hb3') 0 (.slice A2 by'.length c2)
  have g24 : w4.heap[w.heap.size + 1 + 1]? = some (.cells #[.slice gA aggs.length gc] 24 (0, 0)) := hk4.at (blk_below g2 hb3') (by omega)
  clear hw4
  refine hK.out _ _ (.inr ⟨blk_cell g24 0, blk_frozen g14 0, blk_frozen g24 0⟩) ?_
  clear hK K
  (try simp only [Act.put, List.setIfInBounds_toArray, List.set_cons_zero, List.set_cons_succ])
  have t1 := blk_cell g24 0
  have t2 := blk_frozen g24 0
  refine wpAnyR_one (i := 5) (o := ⟨none, _, _, _, _, _⟩) (by kernel_rfl) (by kernel_rfl) rfl (fun K hK => ?_)
  go_simp
  refine hK.out _ _ (.inl rfl) ?_
  clear hK K
  (try simp only [Act.put, List.setIfInBounds_toArray, List.set_cons_zero, List.set_cons_succ])
  refine wpAnyR_done (by kernel_rfl) ?_ _
  go_wp2
  go_ret
  obtain ⟨w5, hw5⟩ : ∃ w5, w4.setCell ⟨w.heap.size + 1 + 1, 0, none⟩ (.slice A3 aggs.length c3) = w5 := ⟨_, rfl⟩
  rw [hw5]
  have hk5 : Seq.Kpt (fun i => i = w.heap.size + 1 + 1) w4 w5 := by rw [← hw5]; exact Seq.Kpt.setCell w4 ⟨w.heap.size + 1 + 1, 0, none⟩ _
  have g25 : w5.heap[w.heap.size + 1 + 1]? = some (.cells #[.slice A3 aggs.length c3] 24 (0, 0)) := by rw [← hw5]; simpa using blk_set g24 0 (.slice A3 aggs.length c3)
  have g15 := hk5.at g14 (by omega)
  have g05 := hk5.at (hk4.at (blk_below g0 hb3') (by omega)) (by omega)
  have hK35 : Seq.Kpt (fun i => i = w.heap.size + 1 ∨ i = w.heap.size + 1 + 1) w3 w5 := hk4.trans hk5 (fun _ _ h => h)
  have hz2 := hb2'.size
  have hz3 := hb3'.size
  have hz12 : w1.heap.size ≤ w1.drew.heap.size := Nat.le_refl _
  have rd1 : kI.C w5 A2 by'.length by' := by
    have h := Kd.R_step (w1 := w5) (Kd.R_below (Kd.R_bound hR1) hb3) (fun k hk hl => hK35.block k hl (fun h => by have e1 := hk.2.1; have : w1.heap.size ≤ k := e1; omega))
    exact (Kd.R_reads' h).2.2
  have rd2 : kA.C w5 A3 aggs.length aggs := by
    have h := Kd.R_step (w1 := w5) (Kd.R_bound hR2) (fun k hk hl => hK35.block k hl (fun h => by have e1 := hk.2.1; omega))
    exact (Kd.R_reads' h).2.2
  have hB5 : Below w.heap.size w w5 := (hb1.trans (hb3'.mono hb1.size)).trans (hK35.below (by omega) (fun i _ h => by omega))
  refine ⟨_, rfl, ⟨_, _, rfl, fun args w => rfl, ?_⟩, hB5⟩
  by_cases hcase : by' = []
  · exact group_seq_nil by' aggs xs _ _ _ _ A2 c2 A3 c3 w5 (hR.later hB5) (blk_cell g15 0) (blk_cell g05 0) (blk_cell g25 0) rd1 hle2 rd2 hle3 hb hn hb1' hb2'' hcase
  · exact group_seq_cons by' aggs xs _ _ _ _ A2 c2 A3 c3 w5 (hR.later hB5) (blk_cell g15 0) (blk_cell g05 0) (blk_cell g25 0) rd1 hle2 rd2 hle3 hb hn hb1' hb2'' hcase
end Go.Proofs.YtihdlalbgdighaaDoor.QV
/- slices.SortStableFunc over rows, walked: symMerge. -/
namespace Go.Proofs.YtihdlalbgdighaaDoor.QV
open Go.RowKit Go.Proofs.YtihdlalbgdighaaDoorW.PrintWords Go.Proofs.YtihdlalbgdighaaDoor.SeqW Go.Shelf Go.Proofs.YtihdlalbgdighaaDoor.Op Go.Proofs.YtihdlalbgdighaaDoor.Stab
set_option linter.unusedVariables false
set_option linter.unusedSimpArgs false

set_option maxRecDepth 100000 in
set_option maxHeartbeats 4000000 in
theorem sym_last (g n c : Nat) (cf : Nat → Nat → Int) (gc : Nat) (lb : Array Value) (hcf : CmpOk cf) (enc : Nat → Value) (rest : List Value) (w0 : World) (hn2 : n ≤ 5864062014805)
    (hcmp : CmpAt cf enc gc lb g w0) (eg : ∀ args w, (callFunc gc args).run Tryd.prog w = .ok (.enter gc args) w) (hform : ∀ x, ∃ A m k, enc x = .slice A m k)
    (a m b : Nat) (p L q : List Nat) (x : Nat) (W : World) (hx : El enc rest g (p ++ L ++ [x] ++ q) W) (hp : p.length = a) (hL : a + L.length = m) (hb : m + 1 = b) (hq : b + q.length = n) (hL2 : 2 ≤ L.length)
    (hLs : L.Pairwise (Lt cf)) (hLR : ∀ y ∈ L, y < x) (hk : Seq.Kpt (fun i => i = g) w0 W) :
    Calls Tryd.prog 101 #[.slice (some ⟨g, 0, none⟩) n c, .int .i64 a, .int .i64 m, .int .i64 b, .func (.func gc) #[] lb] W fun e W' => e = .returned (.tuple #[]) ∧
        ∃ S, S.Perm (L ++ [x]) ∧ S.Pairwise (Lt cf) ∧ Seq.Kpt (fun i => i = g) W W' ∧ El enc rest g (p ++ S ++ q) W' := by
  have mixed : Tryd.prog.follows .mixedOrders = true := by kernel_rfl
  obtain ⟨ll, hll⟩ : ∃ ll : Nat, L.length = ll := ⟨_, rfl⟩
  have e1 : (m : Int) - (a : Int) = (ll : Int) := by omega
  have e2 : IntKind.i64.wrap (ll : Int) = (ll : Int) := wrapN (by omega)
  have e3 : ((ll : Int) == 1) = false := by simp; omega
  have e3' : ¬ (ll : Int) = 1 := by omega
  have e3n : ¬ ll = 1 := by omega
  have e4 : (b : Int) - (m : Int) = 1 := by omega
  have e5 : IntKind.i64.wrap 1 = 1 := by rfl
  have an : m < n := by omega
  have anz : (m : Int) < (n : Int) := by omega
  have hE := hx.cast (ys := p ++ L ++ x :: q) (by simp)
  go_enter Tryd.func101, Tryd.ntmps101
  go_wp2_with fail
  go_loopw [14, 15] (fun iv jv wr => ∃ (i j : Nat), iv = .int .i64 (i : Int) ∧ jv = .int .i64 (j : Int) ∧ a ≤ i ∧ i ≤ j ∧ j ≤ m ∧ (∀ y ∈ L.take (i - a), Lt cf y x) ∧ (∀ y ∈ L.drop (j - a), Lt cf x y) ∧ El enc rest g (p ++ L ++ x :: q) wr ∧ Seq.Kpt (fun i => i = g) W wr) (fun iv jv _ => (intOf jv).toNat - (intOf iv).toNat)
  case atStart => exact ⟨a, m, rfl, rfl, Nat.le_refl _, by omega, Nat.le_refl _, by simp, by rw [List.drop_of_length_le (by omega)]; simp, hE, Seq.Kpt.refl _ _⟩
  case round =>
    obtain ⟨i, j, rfl, rfl, hmi, hij, hjb, hF1, hF2, hEr, hkr⟩ := hrel
    clear e1 e2 e3 e3' e3n e4 e5
    by_cases hlt : i < j
    · have hlz : (i : Int) < (j : Int) := by omega
      obtain ⟨s, hs⟩ : ∃ s : Nat, i + j = s := ⟨_, rfl⟩
      obtain ⟨h, hh⟩ : ∃ h : Nat, s / 2 = h := ⟨_, rfl⟩
      have w1 : (i : Int) + (j : Int) = (s : Int) := by omega
      have w2 : IntKind.i64.wrap (s : Int) = (s : Int) := wrapN (by omega)
      have w3 : (s : Int) / 2 = (h : Int) := by omega
      have w4 : (h : Int) < (n : Int) := by omega
      have w4' : h < n := by omega
      obtain ⟨e, he0, he1, he2⟩ := at_mid (s := L) (k := h - a) (by omega)
      obtain ⟨T, hT⟩ : ∃ T, L.take (h - a) = T := ⟨_, rfl⟩
      obtain ⟨D, hD⟩ : ∃ D, L.drop (h - a + 1) = D := ⟨_, rfl⟩
      rw [hT, hD] at he0
      have hTl : T.length = h - a := by rw [← hT, List.length_take]; omega
      have hDl : T.length + 1 + D.length = ll := by rw [← hll, he0]; simp; omega
      have hEe := hEr.cast (ys := p ++ (T ++ e :: D) ++ x :: q) (by rw [← he0])
      have HE0 := Lib.hid (And.intro he0 (And.intro he1 he2))
      have HTD := Lib.hid (And.intro hT hD)
      clear he0 he1 he2 hT hD
      have c1 : wr.cell? ⟨g, m, none⟩ = some (enc x) := (hEe.cast (ys := (p ++ T ++ e :: D) ++ x :: q) (by simp)).at (by first | omega | (simp; omega))
      have c0 : wr.cell? ⟨g, h, none⟩ = some (enc e) := (hEe.cast (ys := (p ++ T) ++ e :: (D ++ x :: q)) (by simp)).at (by first | omega | (simp; omega))
      obtain ⟨z, hz⟩ : ∃ z, cf x e = z := ⟨_, rfl⟩
      go_wp2_with fail
      refine (wpIn_wide (n := 0)).1 ?_
      refine wpIn_region_R (l := 0) 12 (S := fun V => V.cell? ⟨g, m, none⟩ = some (enc x) ∧ V.cell? ⟨g, h, none⟩ = some (enc e)) (by kernel_rfl) ⟨c1, c0⟩ (fun hS0 => ?_)
      refine wpAnyR_take (i := 0) (oi := ⟨some 92, _, _, _, _, _⟩) (v := ?_) (by kernel_rfl) (by kernel_rfl) rfl (by kernel_rfl) (by kernel_rfl) (by kernel_rfl) (fun _ _ _ h => h) (Or.inl ⟨by rfl, ?_⟩) (by assumption) ?_
      rotate_left
      · intro w hSw; (try dsimp only at hSw); (try go_split_ands); go_simp; (try (with_reducible rfl))
      (try simp only [Act.put, List.setIfInBounds_toArray, List.set_cons_zero, List.set_cons_succ])
      refine wpAnyR_take (i := 1) (oi := ⟨some 93, _, _, _, _, _⟩) (v := ?_) (by kernel_rfl) (by kernel_rfl) rfl (by kernel_rfl) (by kernel_rfl) (by kernel_rfl) (fun _ _ _ h => h) (Or.inl ⟨by rfl, ?_⟩) (by assumption) ?_
      rotate_left
      · intro w hSw; (try dsimp only at hSw); (try go_split_ands); go_simp; (try (with_reducible rfl))
      (try simp only [Act.put, List.setIfInBounds_toArray, List.set_cons_zero, List.set_cons_succ])
      refine wpAnyR_take (i := 2) (oi := ⟨some 94, _, _, _, _, _⟩) (v := ?_) (by kernel_rfl) (by kernel_rfl) rfl (by kernel_rfl) (by kernel_rfl) (by kernel_rfl) (fun _ _ _ h => h) (Or.inl ⟨by rfl, ?_⟩) (by assumption) ?_
      rotate_left
      · intro w hSw; (try dsimp only at hSw); (try go_split_ands); go_simp; (try (with_reducible rfl))
      (try simp only [Act.put, List.setIfInBounds_toArray, List.set_cons_zero, List.set_cons_succ])
      refine wpAnyR_take (i := 3) (oi := ⟨some 95, _, _, _, _, _⟩) (v := ?_) (by kernel_rfl) (by kernel_rfl) rfl (by kernel_rfl) (by kernel_rfl) (by kernel_rfl) (fun _ _ _ h => h) (Or.inl ⟨by rfl, ?_⟩) (by assumption) ?_
      rotate_left
      · intro w hSw; (try dsimp only at hSw); (try go_split_ands); go_simp; (try (with_reducible rfl))
      (try simp only [Act.put, List.setIfInBounds_toArray, List.set_cons_zero, List.set_cons_succ])
      refine wpAnyR_take (i := 4) (oi := ⟨some 96, _, _, _, _, _⟩) (v := ?_) (by kernel_rfl) (by kernel_rfl) rfl (by kernel_rfl) (by kernel_rfl) (by kernel_rfl) (fun _ _ _ h => h) (Or.inl ⟨by rfl, ?_⟩) (by assumption) ?_
      rotate_left
      · intro w hSw; (try dsimp only at hSw); (try go_split_ands); go_simp; (try (with_reducible rfl))
      (try simp only [Act.put, List.setIfInBounds_toArray, List.set_cons_zero, List.set_cons_succ])
      refine wpAnyR_take (i := 5) (oi := ⟨some 97, _, _, _, _, _⟩) (v := ?_) (by kernel_rfl) (by kernel_rfl) rfl (by kernel_rfl) (by kernel_rfl) (by kernel_rfl) (fun _ _ _ h => h) (Or.inl ⟨by rfl, ?_⟩) (by assumption) ?_
      rotate_left
      · intro w hSw; (try dsimp only at hSw); (try go_split_ands); go_simp; (try (with_reducible rfl))
      (try simp only [Act.put, List.setIfInBounds_toArray, List.set_cons_zero, List.set_cons_succ])
      refine wpAnyR_take (i := 6) (oi := ⟨some 98, _, _, _, _, _⟩) (v := ?_) (by kernel_rfl) (by kernel_rfl) rfl (by kernel_rfl) (by kernel_rfl) (by kernel_rfl) (fun _ _ _ h => h) (Or.inl ⟨by rfl, ?_⟩) (by assumption) ?_
      rotate_left
      · intro w hSw; (try dsimp only at hSw); (try go_split_ands); go_simp; (try (with_reducible rfl))
      (try simp only [Act.put, List.setIfInBounds_toArray, List.set_cons_zero, List.set_cons_succ])
      refine wpAnyR_take (i := 7) (oi := ⟨some 99, _, _, _, _, _⟩) (v := ?_) (by kernel_rfl) (by kernel_rfl) rfl (by kernel_rfl) (by kernel_rfl) (by kernel_rfl) (fun _ _ _ h => h) (Or.inl ⟨by rfl, ?_⟩) (by assumption) ?_
      rotate_left
      · intro w hSw; (try dsimp only at hSw); (try go_split_ands); go_simp; (try (with_reducible rfl))
      (try simp only [Act.put, List.setIfInBounds_toArray, List.set_cons_zero, List.set_cons_succ])
      refine wpAnyR_take (i := 8) (oi := ⟨some 100, _, _, _, _, _⟩) (v := ?_) (by kernel_rfl) (by kernel_rfl) rfl (by kernel_rfl) (by kernel_rfl) (by kernel_rfl) (fun _ _ _ h => h) (Or.inl ⟨by rfl, ?_⟩) (by assumption) ?_
      rotate_left
      · intro w hSw; (try dsimp only at hSw); (try go_split_ands); go_simp; (try (with_reducible rfl))
      (try simp only [Act.put, List.setIfInBounds_toArray, List.set_cons_zero, List.set_cons_succ])
      refine wpAnyR_one (i := 9) (o := ⟨some 101, _, _, _, _, _⟩) (by kernel_rfl) (by kernel_rfl) rfl (fun K hK => ?_)
      go_simp
      refine (hcmp x e wr.drew ((hk.trans hkr (fun _ _ h => h.elim id id)).trans (Seq.Kpt.drew _ _) (fun _ _ h => h.elim id id))).mono ?_
      rintro e w5 ⟨rfl, hb5⟩
      rw [hz]
      have hb5' : Below wr.heap.size wr w5 := (below_drew (Below.refl _ wr)).trans hb5
      have hE5 := El.kept hEe hb5'
      have hk5 := hkr.trans (Seq.Kpt.of_new (fun i => i = g) hb5') (fun _ _ h => h.elim id id)
      have c15 : w5.cell? ⟨g, m, none⟩ = some (enc x) := (hE5.cast (ys := (p ++ T ++ e :: D) ++ x :: q) (by simp)).at (by first | omega | (simp; omega))
      have c05 : w5.cell? ⟨g, h, none⟩ = some (enc e) := (hE5.cast (ys := (p ++ T) ++ e :: (D ++ x :: q)) (by simp)).at (by first | omega | (simp; omega))
      have c55 := And.intro c15 c05
      (try dsimp only)
      refine hK.out _ _ (.inr c55) ?_
      clear hK K
      (try simp only [Act.put, List.setIfInBounds_toArray, List.set_cons_zero, List.set_cons_succ])
      by_cases hz0 : z < 0
      ·
        refine wpAnyR_take (i := 10) (oi := ⟨some 102, _, _, _, _, _⟩) (v := ?_) (by kernel_rfl) (by kernel_rfl) rfl (by kernel_rfl) (by kernel_rfl) (by kernel_rfl) (fun _ _ _ h => h) (Or.inl ⟨by rfl, ?_⟩) (by assumption) ?_
        rotate_left
        · intro w hSw; (try dsimp only at hSw); (try go_split_ands); go_simp; (try (with_reducible rfl))
        (try simp only [Act.put, List.setIfInBounds_toArray, List.set_cons_zero, List.set_cons_succ])
        refine wpAnyR_take (i := 11) (oi := ⟨some 103, _, _, _, _, _⟩) (v := ?_) (by kernel_rfl) (by kernel_rfl) rfl (by kernel_rfl) (by kernel_rfl) (by kernel_rfl) (fun _ _ _ h => h) (Or.inl ⟨by rfl, ?_⟩) (by assumption) ?_
        rotate_left
        · intro w hSw; (try dsimp only at hSw); (try go_split_ands); go_simp; (try (with_reducible rfl))
        (try simp only [Act.put, List.setIfInBounds_toArray, List.set_cons_zero, List.set_cons_succ])
        refine wpAnyR_done (by kernel_rfl) ?_ _
        go_wp2
        go_roundw
        case rel =>
          refine ⟨i, h, rfl, by go_num, hmi, by omega, by omega, hF1, ?_, El.cast hE5 (by rw [HE0.out.1]), hk5⟩
          rw [HE0.out.2.1]
          refine all_behind hcf ?_ (Lt.of_neg (by rw [hz]; exact hz0))
          rw [← HE0.out.2.1]
          exact pw_drop hLs _
        case measure => simp [intOf]; omega
      ·
        refine wpAnyR_take (i := 10) (oi := ⟨some 102, _, _, _, _, _⟩) (v := ?_) (by kernel_rfl) (by kernel_rfl) rfl (by kernel_rfl) (by kernel_rfl) (by kernel_rfl) (fun _ _ _ h => h) (Or.inl ⟨by rfl, ?_⟩) (by assumption) ?_
        rotate_left
        · intro w hSw; (try dsimp only at hSw); (try go_split_ands); go_simp; (try (with_reducible rfl))
        (try simp only [Act.put, List.setIfInBounds_toArray, List.set_cons_zero, List.set_cons_succ])
        refine wpAnyR_take (i := 11) (oi := ⟨some 103, _, _, _, _, _⟩) (v := ?_) (by kernel_rfl) (by kernel_rfl) rfl (by kernel_rfl) (by kernel_rfl) (by kernel_rfl) (fun _ _ _ h => h) (Or.inl ⟨by rfl, ?_⟩) (by assumption) ?_
        rotate_left
        · intro w hSw; (try dsimp only at hSw); (try go_split_ands); go_simp; (try (with_reducible rfl))
        (try simp only [Act.put, List.setIfInBounds_toArray, List.set_cons_zero, List.set_cons_succ])
        refine wpAnyR_done (by kernel_rfl) ?_ _
        go_wp2
        go_roundw
        case rel =>
          refine ⟨h + 1, j, by go_num, rfl, by omega, by omega, hjb, ?_, hF2, El.cast hE5 (by rw [HE0.out.1]), hk5⟩
          rw [show h + 1 - a = h - a + 1 by omega, HE0.out.2.2]
          refine all_ahead hcf ?_ (Lt.of_not hcf (hLR e (by rw [HE0.out.1]; simp)) (by rw [hz]; exact hz0))
          rw [← HE0.out.2.2]
          exact pw_take hLs _
        case measure => simp [intOf]; omega
    · obtain rfl : i = j := by omega
      have hlz : ¬ (i : Int) < (i : Int) := by omega
      clear hlt
      obtain ⟨L1, hL1⟩ : ∃ L1, L.take (i - a) = L1 := ⟨_, rfl⟩
      obtain ⟨L2, hL2'⟩ : ∃ L2, L.drop (i - a) = L2 := ⟨_, rfl⟩
      have hL12 : L1 ++ L2 = L := by rw [← hL1, ← hL2', List.take_append_drop]
      have hL1l : L1.length = i - a := by rw [← hL1, List.length_take]; omega
      have hL2l : L1.length + L2.length = ll := by rw [← hll, ← hL12]; simp
      rw [hL1] at hF1
      rw [hL2'] at hF2
      have hE1 := hEr.cast (ys := p ++ (L1 ++ L2) ++ x :: q) (by rw [hL12])
      have HL12 := Lib.hid hL12
      clear hL1 hL2' hL12
      go_wp2_with fail
      go_loopw [17] (fun kv wq => ∃ (k : Nat) (A B : List Nat), kv = .int .i64 (k : Int) ∧ L2 = A ++ B ∧ i + A.length = k ∧ El enc rest g (p ++ L1 ++ (A ++ x :: B) ++ q) wq ∧ Seq.Kpt (fun i => i = g) W wq) (fun kv _ => (intOf kv).toNat)
      case atStart => exact ⟨m, L2, [], rfl, by simp, by omega, hE1.cast (by simp), hkr⟩
      case round =>
        obtain ⟨k, A, B, rfl, hAB, hAk, hEk, hkk⟩ := hrel
        have hABl : A.length + B.length + L1.length = ll := by rw [← hL2l, hAB]; simp; omega
        by_cases hkl : i < k
        · have hkz : (i : Int) < (k : Int) := by omega
          rcases snoc_cases A with rfl | ⟨A', y, rfl⟩
          · simp at hAk; omega
          obtain ⟨K, hK⟩ : ∃ K : Nat, k - 1 = K := ⟨_, rfl⟩
          have hA'l : i + A'.length = K := by simp at hAk; omega
          have hABl' : A'.length + 1 + B.length + L1.length = ll := by simp at hABl; omega
          clear hABl
          have w5 : (k : Int) - 1 = (K : Int) := by omega
          have w6 : IntKind.i64.wrap (K : Int) = (K : Int) := wrapN (by omega)
          have hsw := El.swapHi (x := y) (y := x) (A := p ++ L1 ++ A') (B := []) (C := B ++ q) (I := K) (J := k) (hEk.cast (by simp)) (by simp; omega) (by simp; omega)
          obtain ⟨Ax, nx, cx, hex⟩ := hform y
          obtain ⟨Ay, ny, cy, hey⟩ := hform x
          rw [hex, hey] at hsw
          obtain ⟨d1, d0, d2, q2, hE2⟩ := hsw
          have hk2 : Seq.Kpt (fun i => i = g) W ((wr.setCell ⟨g, k, none⟩ (.slice Ax nx cx)).setCell ⟨g, K, none⟩ (.slice Ay ny cy)) := (hkk.trans (Seq.Kpt.setCell wr ⟨g, k, none⟩ _) (fun _ _ h => h.elim id id)).trans (Seq.Kpt.setCell _ ⟨g, K, none⟩ _) (fun _ _ h => h.elim id id)
          have e1 : wr.drew.cell? ⟨g, K, none⟩ = some (.slice Ax nx cx) := d1
          have e0 : wr.drew.cell? ⟨g, k, none⟩ = some (.slice Ay ny cy) := d0
          have e2 : (wr.setCell ⟨g, k, none⟩ (.slice Ax nx cx)).drew.cell? ⟨g, K, none⟩ = some (.slice Ax nx cx) := d2
          have e3 : (wr.setCell ⟨g, k, none⟩ (.slice Ax nx cx)).drew.frozen? ⟨g, K, none⟩ = false := q2
          have e4 : wr.drew.frozen? ⟨g, K, none⟩ = false := hEk.frozen K
          have e5 : wr.drew.frozen? ⟨g, k, none⟩ = false := hEk.frozen k
          have n1 : (K : Int) < (n : Int) := by omega
          have n2 : (k : Int) < (n : Int) := by omega
          have n3 : K < n := by omega
          have n4 : k < n := by omega
          have n5 : k ≠ K := by omega
          have n6 : K ≠ k := by omega
          have HE2 := Lib.hid (And.intro hE2 hk2)
          clear hE2 hk2 d1 d0 d2 q2 hex hey
          go_wp2_with fail
          go_big_region_o
          go_wp2
          go_roundw
          case rel => exact ⟨K, A', y :: B, by go_num, by rw [hAB]; simp, hA'l, El.cast HE2.out.1 (by simp), HE2.out.2.trans (Seq.Kpt.drew _ _) (fun _ _ h => h.elim id id)⟩
          case measure => simp [intOf]; omega
        · have hkz : ¬ (i : Int) < (k : Int) := by omega
          obtain rfl : A = [] := List.eq_nil_of_length_eq_zero (by omega)
          rw [List.nil_append] at hAB
          subst hAB
          go_wp2
          refine bodyPost_ret (results_none rfl _ _ _) rfl ?_
          refine ⟨rfl, L1 ++ x :: L2, ?_, ?_, hkk, hEk.cast (by simp)⟩
          · rw [← HL12.out]
            exact List.perm_middle.trans (List.perm_append_singleton x _).symm
          · have hLs' := hLs
            rw [← HL12.out] at hLs'
            refine pw_append (List.pairwise_append.1 hLs').1 (List.pairwise_cons.2 ⟨hF2, (List.pairwise_append.1 hLs').2.1⟩) ?_
            intro y hy t ht
            rcases List.mem_cons.1 ht with ht | ht
            · rw [ht]; exact hF1 y hy
            · exact (List.pairwise_append.1 hLs').2.2 y hy t ht
end Go.Proofs.YtihdlalbgdighaaDoor.QV
/- slices.SortStableFunc over rows, walked: symMerge. -/
namespace Go.Proofs.YtihdlalbgdighaaDoor.QV
open Go.RowKit Go.Proofs.YtihdlalbgdighaaDoorW.PrintWords Go.Proofs.YtihdlalbgdighaaDoor.SeqW Go.Shelf Go.Proofs.YtihdlalbgdighaaDoor.Op Go.Proofs.YtihdlalbgdighaaDoor.Stab
set_option linter.unusedVariables false
set_option linter.unusedSimpArgs false

/-- What symMerge does, for parts of so many elements. -/
def SymAt (g n c : Nat) (cf : Nat → Nat → Int) (gc : Nat) (lb : Array Value) (enc : Nat → Value) (rest : List Value) (w0 : World) (N : Nat) : Prop :=
  ∀ (a m b : Nat) (p L R q : List Nat) (W : World), b - a ≤ N → El enc rest g (p ++ L ++ R ++ q) W → p.length = a → a + L.length = m → m + R.length = b → b + q.length = n → 0 < L.length → 0 < R.length →
      L.Pairwise (Lt cf) → R.Pairwise (Lt cf) → (∀ x ∈ L, ∀ y ∈ R, x < y) → Seq.Kpt (fun i => i = g) w0 W →
      Calls Tryd.prog 101 #[.slice (some ⟨g, 0, none⟩) n c, .int .i64 a, .int .i64 m, .int .i64 b, .func (.func gc) #[] lb] W fun e W' => e = .returned (.tuple #[]) ∧
        ∃ S, S.Perm (L ++ R) ∧ S.Pairwise (Lt cf) ∧ Seq.Kpt (fun i => i = g) W W' ∧ El enc rest g (p ++ S ++ q) W' 
set_option maxRecDepth 100000 in
set_option maxHeartbeats 16000000 in
theorem sym_gt (g n c : Nat) (cf : Nat → Nat → Int) (gc : Nat) (lb : Array Value) (hcf : CmpOk cf) (enc : Nat → Value) (rest : List Value) (w0 : World) (hn2 : n ≤ 5864062014805)
    (hcmp : CmpAt cf enc gc lb g w0) (eg : ∀ args w, (callFunc gc args).run Tryd.prog w = .ok (.enter gc args) w) (hform : ∀ x, ∃ A m k, enc x = .slice A m k)
    (N : Nat) (IH : SymAt g n c cf gc lb enc rest w0 N) (a m b : Nat) (p L R q : List Nat) (W : World) (hN : b - a ≤ N + 1) (hx : El enc rest g (p ++ L ++ R ++ q) W) (hp : p.length = a) (hL : a + L.length = m) (hR : m + R.length = b) (hq : b + q.length = n) (hL2 : 2 ≤ L.length) (hR2 : 2 ≤ R.length)
    (hLs : L.Pairwise (Lt cf)) (hRs : R.Pairwise (Lt cf)) (hLR : ∀ x ∈ L, ∀ y ∈ R, x < y) (hk : Seq.Kpt (fun i => i = g) w0 W) (hside : (a + b) / 2 < m) :
    Calls Tryd.prog 101 #[.slice (some ⟨g, 0, none⟩) n c, .int .i64 a, .int .i64 m, .int .i64 b, .func (.func gc) #[] lb] W fun e W' => e = .returned (.tuple #[]) ∧
        ∃ S, S.Perm (L ++ R) ∧ S.Pairwise (Lt cf) ∧ Seq.Kpt (fun i => i = g) W W' ∧ El enc rest g (p ++ S ++ q) W' := by
  have mixed : Tryd.prog.follows .mixedOrders = true := by kernel_rfl
  obtain ⟨ll, hll⟩ : ∃ ll : Nat, L.length = ll := ⟨_, rfl⟩
  obtain ⟨lr, hlr⟩ : ∃ lr : Nat, R.length = lr := ⟨_, rfl⟩
  have e1 : (m : Int) - (a : Int) = (ll : Int) := by omega
  have e2 : IntKind.i64.wrap (ll : Int) = (ll : Int) := wrapN (by omega)
  have e3' : ¬ (ll : Int) = 1 := by omega
  have e3n : ¬ ll = 1 := by omega
  have e4 : (b : Int) - (m : Int) = (lr : Int) := by omega
  have e5 : IntKind.i64.wrap (lr : Int) = (lr : Int) := wrapN (by omega)
  have e6' : ¬ (lr : Int) = 1 := by omega
  have e3 : ((ll : Int) == 1) = false := by simp; omega
  have e6 : ((lr : Int) == 1) = false := by simp; omega
  have e6n : ¬ lr = 1 := by omega
  obtain ⟨s0, hs0⟩ : ∃ s0 : Nat, a + b = s0 := ⟨_, rfl⟩
  obtain ⟨M, hM⟩ : ∃ M : Nat, s0 / 2 = M := ⟨_, rfl⟩
  obtain ⟨nn, hnn⟩ : ∃ nn : Nat, M + m = nn := ⟨_, rfl⟩
  obtain ⟨pp, hpp⟩ : ∃ pp : Nat, nn - 1 = pp := ⟨_, rfl⟩
  have f1 : (a : Int) + (b : Int) = (s0 : Int) := by omega
  have f2 : IntKind.i64.wrap (s0 : Int) = (s0 : Int) := wrapN (by omega)
  have f3 : (s0 : Int) / 2 = (M : Int) := by omega
  have f4 : (M : Int) + (m : Int) = (nn : Int) := by omega
  have f5 : IntKind.i64.wrap (nn : Int) = (nn : Int) := wrapN (by omega)
  have f6 : (nn : Int) - 1 = (pp : Int) := by omega
  have f7 : IntKind.i64.wrap (pp : Int) = (pp : Int) := wrapN (by omega)
  obtain ⟨lo, hlo⟩ : ∃ lo : Nat, nn - b = lo := ⟨_, rfl⟩
  have f8 : (nn : Int) - (b : Int) = (lo : Int) := by omega
  have f9 : IntKind.i64.wrap (lo : Int) = (lo : Int) := wrapN (by omega)
  have hgz : (M : Int) < (m : Int) := by omega
  go_enter Tryd.func101, Tryd.ntmps101
  go_wp2_with fail
  clear e1 e2 e3 e3' e3n e4 e5 e6 e6' e6n f1 f2 f3 f4 f5 f6 f7 hgz f8 f9
  go_loopw [20, 21] (fun iv jv wr => ∃ (st r : Nat), iv = .int .i64 (st : Int) ∧ jv = .int .i64 (r : Int) ∧ lo ≤ st ∧ st ≤ r ∧ r ≤ M ∧ (∀ u ∈ L.take (st - a), ∀ v ∈ R.drop (nn - st - m), Lt cf u v) ∧ (∀ v ∈ R.take (nn - r - m), ∀ u ∈ L.drop (r - a), Lt cf v u) ∧ El enc rest g (p ++ L ++ R ++ q) wr ∧ Seq.Kpt (fun i => i = g) W wr) (fun iv jv _ => (intOf jv).toNat - (intOf iv).toNat)
  case atStart => exact ⟨lo, M, rfl, rfl, Nat.le_refl _, by omega, Nat.le_refl _, by rw [List.drop_of_length_le (by omega)]; simp, by rw [show nn - M - m = 0 by omega]; simp, hx, Seq.Kpt.refl _ _⟩
  case round =>
    obtain ⟨st, r, rfl, rfl, hst, hsr, hrh, hF1, hF2, hEr, hkr⟩ := hrel
    by_cases hlt : st < r
    · have hlz : (st : Int) < (r : Int) := by omega
      obtain ⟨s, hs⟩ : ∃ s : Nat, st + r = s := ⟨_, rfl⟩
      obtain ⟨h, hh⟩ : ∃ h : Nat, s / 2 = h := ⟨_, rfl⟩
      obtain ⟨d, hd⟩ : ∃ d : Nat, pp - h = d := ⟨_, rfl⟩
      have w1 : (st : Int) + (r : Int) = (s : Int) := by omega
      have w2 : IntKind.i64.wrap (s : Int) = (s : Int) := wrapN (by omega)
      have w3 : (s : Int) / 2 = (h : Int) := by omega
      have w4 : (h : Int) < (n : Int) := by omega
      have w4' : h < n := by omega
      have w5 : (pp : Int) - (h : Int) = (d : Int) := by omega
      have w6 : IntKind.i64.wrap (d : Int) = (d : Int) := wrapN (by omega)
      have w7 : (d : Int) < (n : Int) := by omega
      have w7' : d < n := by omega
      obtain ⟨u0, hu0, hu1, hu2⟩ := at_mid (s := L) (k := h - a) (by omega)
      obtain ⟨v0, hv0, hv1, hv2⟩ := at_mid (s := R) (k := d - m) (by omega)
      obtain ⟨TL, hTL⟩ : ∃ T, L.take (h - a) = T := ⟨_, rfl⟩
      obtain ⟨DL, hDL⟩ : ∃ D, L.drop (h - a + 1) = D := ⟨_, rfl⟩
      obtain ⟨TR, hTR⟩ : ∃ T, R.take (d - m) = T := ⟨_, rfl⟩
      obtain ⟨DR, hDR⟩ : ∃ D, R.drop (d - m + 1) = D := ⟨_, rfl⟩
      have lTL : TL.length = h - a := by rw [← hTL, List.length_take]; omega
      have lTR : TR.length = d - m := by rw [← hTR, List.length_take]; omega
      have lDL : DL.length = ll - (h - a + 1) := by rw [← hDL, List.length_drop, hll]
      rw [hTL, hDL] at hu0
      rw [hTR, hDR] at hv0
      have hEe := hEr.cast (ys := p ++ (TL ++ u0 :: DL) ++ (TR ++ v0 :: DR) ++ q) (by rw [← hu0, ← hv0])
      have HU := Lib.hid (And.intro hu0 (And.intro hu1 hu2))
      have HV := Lib.hid (And.intro hv0 (And.intro hv1 hv2))
      clear hu0 hu1 hu2 hv0 hv1 hv2 hTL hDL hTR hDR
      have c1 : wr.cell? ⟨g, d, none⟩ = some (enc v0) := (hEe.cast (ys := (p ++ (TL ++ u0 :: DL) ++ TR) ++ v0 :: (DR ++ q)) (by simp)).at (by first | omega | (simp; omega))
      have c0 : wr.cell? ⟨g, h, none⟩ = some (enc u0) := (hEe.cast (ys := (p ++ TL) ++ u0 :: (DL ++ (TR ++ v0 :: DR) ++ q)) (by simp)).at (by first | omega | (simp; omega))
      obtain ⟨z, hz⟩ : ∃ z, cf v0 u0 = z := ⟨_, rfl⟩
      go_wp2_with fail
      refine (wpIn_wide (n := 0)).1 ?_
      refine wpIn_region_R (l := 0) 14 (S := fun V => V.cell? ⟨g, d, none⟩ = some (enc v0) ∧ V.cell? ⟨g, h, none⟩ = some (enc u0)) (by kernel_rfl) ⟨c1, c0⟩ (fun hS0 => ?_)
      refine wpAnyR_take (i := 0) (oi := ⟨some 158, _, _, _, _, _⟩) (v := ?_) (by kernel_rfl) (by kernel_rfl) rfl (by kernel_rfl) (by kernel_rfl) (by kernel_rfl) (fun _ _ _ h => h) (Or.inl ⟨by rfl, ?_⟩) (by assumption) ?_
      rotate_left
      · intro w hSw; (try dsimp only at hSw); (try go_split_ands); go_simp; (try (with_reducible rfl))
      (try simp only [Act.put, List.setIfInBounds_toArray, List.set_cons_zero, List.set_cons_succ])
      refine wpAnyR_take (i := 1) (oi := ⟨some 159, _, _, _, _, _⟩) (v := ?_) (by kernel_rfl) (by kernel_rfl) rfl (by kernel_rfl) (by kernel_rfl) (by kernel_rfl) (fun _ _ _ h => h) (Or.inl ⟨by rfl, ?_⟩) (by assumption) ?_
      rotate_left
      · intro w hSw; (try dsimp only at hSw); (try go_split_ands); go_simp; (try (with_reducible rfl))
      (try simp only [Act.put, List.setIfInBounds_toArray, List.set_cons_zero, List.set_cons_succ])
      refine wpAnyR_take (i := 2) (oi := ⟨some 160, _, _, _, _, _⟩) (v := ?_) (by kernel_rfl) (by kernel_rfl) rfl (by kernel_rfl) (by kernel_rfl) (by kernel_rfl) (fun _ _ _ h => h) (Or.inl ⟨by rfl, ?_⟩) (by assumption) ?_
      rotate_left
      · intro w hSw; (try dsimp only at hSw); (try go_split_ands); go_simp; (try (with_reducible rfl))
      (try simp only [Act.put, List.setIfInBounds_toArray, List.set_cons_zero, List.set_cons_succ])
      refine wpAnyR_take (i := 3) (oi := ⟨some 161, _, _, _, _, _⟩) (v := ?_) (by kernel_rfl) (by kernel_rfl) rfl (by kernel_rfl) (by kernel_rfl) (by kernel_rfl) (fun _ _ _ h => h) (Or.inl ⟨by rfl, ?_⟩) (by assumption) ?_
      rotate_left
      · intro w hSw; (try dsimp only at hSw); (try go_split_ands); go_simp; (try (with_reducible rfl))
      (try simp only [Act.put, List.setIfInBounds_toArray, List.set_cons_zero, List.set_cons_succ])
      refine wpAnyR_take (i := 4) (oi := ⟨some 162, _, _, _, _, _⟩) (v := ?_) (by kernel_rfl) (by kernel_rfl) rfl (by kernel_rfl) (by kernel_rfl) (by kernel_rfl) (fun _ _ _ h => h) (Or.inl ⟨by rfl, ?_⟩) (by assumption) ?_
      rotate_left
      · intro w hSw; (try dsimp only at hSw); (try go_split_ands); go_simp; (try (with_reducible rfl))
      (try simp only [Act.put, List.setIfInBounds_toArray, List.set_cons_zero, List.set_cons_succ])
      refine wpAnyR_take (i := 5) (oi := ⟨some 163, _, _, _, _, _⟩) (v := ?_) (by kernel_rfl) (by kernel_rfl) rfl (by kernel_rfl) (by kernel_rfl) (by kernel_rfl) (fun _ _ _ h => h) (Or.inl ⟨by rfl, ?_⟩) (by assumption) ?_
      rotate_left
      · intro w hSw; (try dsimp only at hSw); (try go_split_ands); go_simp; (try (with_reducible rfl))
      (try simp only [Act.put, List.setIfInBounds_toArray, List.set_cons_zero, List.set_cons_succ])
      refine wpAnyR_take (i := 6) (oi := ⟨some 164, _, _, _, _, _⟩) (v := ?_) (by kernel_rfl) (by kernel_rfl) rfl (by kernel_rfl) (by kernel_rfl) (by kernel_rfl) (fun _ _ _ h => h) (Or.inl ⟨by rfl, ?_⟩) (by assumption) ?_
      rotate_left
      · intro w hSw; (try dsimp only at hSw); (try go_split_ands); go_simp; (try (with_reducible rfl))
      (try simp only [Act.put, List.setIfInBounds_toArray, List.set_cons_zero, List.set_cons_succ])
      refine wpAnyR_take (i := 7) (oi := ⟨some 165, _, _, _, _, _⟩) (v := ?_) (by kernel_rfl) (by kernel_rfl) rfl (by kernel_rfl) (by kernel_rfl) (by kernel_rfl) (fun _ _ _ h => h) (Or.inl ⟨by rfl, ?_⟩) (by assumption) ?_
      rotate_left
      · intro w hSw; (try dsimp only at hSw); (try go_split_ands); go_simp; (try (with_reducible rfl))
      (try simp only [Act.put, List.setIfInBounds_toArray, List.set_cons_zero, List.set_cons_succ])
      refine wpAnyR_take (i := 8) (oi := ⟨some 166, _, _, _, _, _⟩) (v := ?_) (by kernel_rfl) (by kernel_rfl) rfl (by kernel_rfl) (by kernel_rfl) (by kernel_rfl) (fun _ _ _ h => h) (Or.inl ⟨by rfl, ?_⟩) (by assumption) ?_
      rotate_left
      · intro w hSw; (try dsimp only at hSw); (try go_split_ands); go_simp; (try (with_reducible rfl))
      (try simp only [Act.put, List.setIfInBounds_toArray, List.set_cons_zero, List.set_cons_succ])
      refine wpAnyR_take (i := 9) (oi := ⟨some 167, _, _, _, _, _⟩) (v := ?_) (by kernel_rfl) (by kernel_rfl) rfl (by kernel_rfl) (by kernel_rfl) (by kernel_rfl) (fun _ _ _ h => h) (Or.inl ⟨by rfl, ?_⟩) (by assumption) ?_
      rotate_left
      · intro w hSw; (try dsimp only at hSw); (try go_split_ands); go_simp; (try (with_reducible rfl))
      (try simp only [Act.put, List.setIfInBounds_toArray, List.set_cons_zero, List.set_cons_succ])
      refine wpAnyR_take (i := 10) (oi := ⟨some 168, _, _, _, _, _⟩) (v := ?_) (by kernel_rfl) (by kernel_rfl) rfl (by kernel_rfl) (by kernel_rfl) (by kernel_rfl) (fun _ _ _ h => h) (Or.inl ⟨by rfl, ?_⟩) (by assumption) ?_
      rotate_left
      · intro w hSw; (try dsimp only at hSw); (try go_split_ands); go_simp; (try (with_reducible rfl))
      (try simp only [Act.put, List.setIfInBounds_toArray, List.set_cons_zero, List.set_cons_succ])
      refine wpAnyR_one (i := 11) (o := ⟨some 169, _, _, _, _, _⟩) (by kernel_rfl) (by kernel_rfl) rfl (fun K hK => ?_)
      go_simp
      refine (hcmp v0 u0 wr.drew ((hk.trans hkr (fun _ _ h => h.elim id id)).trans (Seq.Kpt.drew _ _) (fun _ _ h => h.elim id id))).mono ?_
      rintro e w5 ⟨rfl, hb5⟩
      rw [hz]
      have hb5' : Below wr.heap.size wr w5 := (below_drew (Below.refl _ wr)).trans hb5
      have hE5 := El.kept hEe hb5'
      have hk5 := hkr.trans (Seq.Kpt.of_new (fun i => i = g) hb5') (fun _ _ h => h.elim id id)
      have c15 : w5.cell? ⟨g, d, none⟩ = some (enc v0) := (hE5.cast (ys := (p ++ (TL ++ u0 :: DL) ++ TR) ++ v0 :: (DR ++ q)) (by simp)).at (by first | omega | (simp; omega))
      have c05 : w5.cell? ⟨g, h, none⟩ = some (enc u0) := (hE5.cast (ys := (p ++ TL) ++ u0 :: (DL ++ (TR ++ v0 :: DR) ++ q)) (by simp)).at (by first | omega | (simp; omega))
      have c55 := And.intro c15 c05
      (try dsimp only)
      refine hK.out _ _ (.inr c55) ?_
      clear hK K
      (try simp only [Act.put, List.setIfInBounds_toArray, List.set_cons_zero, List.set_cons_succ])
      by_cases hz0 : z < 0
      ·
        refine wpAnyR_take (i := 12) (oi := ⟨some 170, _, _, _, _, _⟩) (v := ?_) (by kernel_rfl) (by kernel_rfl) rfl (by kernel_rfl) (by kernel_rfl) (by kernel_rfl) (fun _ _ _ h => h) (Or.inl ⟨by rfl, ?_⟩) (by assumption) ?_
        rotate_left
        · intro w hSw; (try dsimp only at hSw); (try go_split_ands); go_simp; (try (with_reducible rfl))
        (try simp only [Act.put, List.setIfInBounds_toArray, List.set_cons_zero, List.set_cons_succ])
        refine wpAnyR_take (i := 13) (oi := ⟨some 171, _, _, _, _, _⟩) (v := ?_) (by kernel_rfl) (by kernel_rfl) rfl (by kernel_rfl) (by kernel_rfl) (by kernel_rfl) (fun _ _ _ h => h) (Or.inl ⟨by rfl, ?_⟩) (by assumption) ?_
        rotate_left
        · intro w hSw; (try dsimp only at hSw); (try go_split_ands); go_simp; (try (with_reducible rfl))
        (try simp only [Act.put, List.setIfInBounds_toArray, List.set_cons_zero, List.set_cons_succ])
        refine wpAnyR_done (by kernel_rfl) ?_ _
        go_wp2
        go_roundw
        case rel =>
          refine ⟨st, h, rfl, by go_num, hst, by omega, by omega, hF1, ?_, El.cast hE5 (by rw [HU.out.1, HV.out.1]), hk5⟩
          rw [show nn - h - m = d - m + 1 by omega, HV.out.2.2, HU.out.2.1]
          intro v hv u hu
          have h1 := all_ahead hcf (by rw [← HV.out.2.2]; exact pw_take hRs _) (Lt.of_neg (by rw [hz]; exact hz0) : Lt cf v0 u0) v hv
          exact all_behind hcf (by rw [← HU.out.2.1]; exact pw_drop hLs _) h1 u hu
        case measure => simp [intOf]; omega
      ·
        refine wpAnyR_take (i := 12) (oi := ⟨some 170, _, _, _, _, _⟩) (v := ?_) (by kernel_rfl) (by kernel_rfl) rfl (by kernel_rfl) (by kernel_rfl) (by kernel_rfl) (fun _ _ _ h => h) (Or.inl ⟨by rfl, ?_⟩) (by assumption) ?_
        rotate_left
        · intro w hSw; (try dsimp only at hSw); (try go_split_ands); go_simp; (try (with_reducible rfl))
        (try simp only [Act.put, List.setIfInBounds_toArray, List.set_cons_zero, List.set_cons_succ])
        refine wpAnyR_take (i := 13) (oi := ⟨some 171, _, _, _, _, _⟩) (v := ?_) (by kernel_rfl) (by kernel_rfl) rfl (by kernel_rfl) (by kernel_rfl) (by kernel_rfl) (fun _ _ _ h => h) (Or.inl ⟨by rfl, ?_⟩) (by assumption) ?_
        rotate_left
        · intro w hSw; (try dsimp only at hSw); (try go_split_ands); go_simp; (try (with_reducible rfl))
        (try simp only [Act.put, List.setIfInBounds_toArray, List.set_cons_zero, List.set_cons_succ])
        refine wpAnyR_done (by kernel_rfl) ?_ _
        go_wp2
        go_roundw
        case rel =>
          refine ⟨h + 1, r, by go_num, rfl, by omega, by omega, hrh, ?_, hF2, El.cast hE5 (by rw [HU.out.1, HV.out.1]), hk5⟩
          rw [show h + 1 - a = h - a + 1 by omega, show nn - (h + 1) - m = d - m by omega, HU.out.2.2, HV.out.2.1]
          intro u hu v hv
          have h0 : Lt cf u0 v0 := Lt.of_not hcf (hLR u0 (by rw [HU.out.1]; simp) v0 (by rw [HV.out.1]; simp)) (by rw [hz]; exact hz0)
          have h1 := all_ahead hcf (by rw [← HU.out.2.2]; exact pw_take hLs _) h0 u hu
          exact all_behind hcf (by rw [← HV.out.2.1]; exact pw_drop hRs _) h1 v hv
        case measure => simp [intOf]; omega
    · obtain rfl : st = r := by omega
      have hlz : ¬ (st : Int) < (st : Int) := by omega
      clear hlt
      obtain ⟨en, hen⟩ : ∃ en : Nat, nn - st = en := ⟨_, rfl⟩
      have w1 : (nn : Int) - (st : Int) = (en : Int) := by omega
      have w2 : IntKind.i64.wrap (en : Int) = (en : Int) := wrapN (by omega)
      rw [hen] at hF1 hF2
      have hx1 := pw_cut hLs (st - a)
      have hx2 := pw_cut hRs (en - m)
      have hs1 := pw_take hLs (st - a)
      have hs2 := pw_drop hLs (st - a)
      have hs3 := pw_take hRs (en - m)
      have hs4 := pw_drop hRs (en - m)
      obtain ⟨L1, hL1⟩ : ∃ L1, L.take (st - a) = L1 := ⟨_, rfl⟩
      obtain ⟨L2, hL2'⟩ : ∃ L2, L.drop (st - a) = L2 := ⟨_, rfl⟩
      obtain ⟨R1, hR1⟩ : ∃ R1, R.take (en - m) = R1 := ⟨_, rfl⟩
      obtain ⟨R2, hR2'⟩ : ∃ R2, R.drop (en - m) = R2 := ⟨_, rfl⟩
      have hL12 : L = L1 ++ L2 := by rw [← hL1, ← hL2', List.take_append_drop]
      have hR12 : R = R1 ++ R2 := by rw [← hR1, ← hR2', List.take_append_drop]
      have lL1 : L1.length = st - a := by rw [← hL1, List.length_take]; omega
      have lL2 : L2.length = m - st := by rw [← hL2', List.length_drop]; omega
      have lR1 : R1.length = en - m := by rw [← hR1, List.length_take]; omega
      have lR2 : R2.length = b - en := by rw [← hR2', List.length_drop]; omega
      rw [hL1, hR2'] at hF1
      rw [hR1, hL2'] at hF2
      rw [hL1, hL2'] at hx1
      rw [hR1, hR2'] at hx2
      rw [hL1] at hs1
      rw [hL2'] at hs2
      rw [hR1] at hs3
      rw [hR2'] at hs4
      have hc1 : ∀ x ∈ L1, ∀ y ∈ R1, x < y := fun x hx y hy => hLR x (by rw [hL12]; simp [hx]) y (by rw [hR12]; simp [hy])
      have hc2 : ∀ x ∈ L2, ∀ y ∈ R2, x < y := fun x hx y hy => hLR x (by rw [hL12]; simp [hx]) y (by rw [hR12]; simp [hy])
      have hE1 := hEr.cast (ys := p ++ (L1 ++ L2) ++ (R1 ++ R2) ++ q) (by rw [← hL12, ← hR12])
      have finl : ∀ S1 S2 : List Nat, S1.Perm (L1 ++ R1) → S1.Pairwise (Lt cf) → S2.Perm (L2 ++ R2) → S2.Pairwise (Lt cf) → (S1 ++ S2).Perm (L ++ R) ∧ (S1 ++ S2).Pairwise (Lt cf) := by
        intro S1 S2 hP1 hS1 hP2 hS2
        refine ⟨?_, pw_append hS1 hS2 ?_⟩
        · rw [hL12, hR12]
          refine (hP1.append hP2).trans ?_
          rw [List.append_assoc, List.append_assoc]
          refine List.Perm.append_left L1 ?_
          rw [← List.append_assoc, ← List.append_assoc]
          exact List.Perm.append_right R2 List.perm_append_comm
        · intro x hx y hy
          have hx' := hP1.mem_iff.1 hx
          have hy' := hP2.mem_iff.1 hy
          rcases List.mem_append.1 hx' with hx' | hx' <;> rcases List.mem_append.1 hy' with hy' | hy'
          · exact hx1 x hx' y hy'
          · exact hF1 x hx' y hy'
          · exact hF2 x hx' y hy'
          · exact hx2 x hx' y hy'
      have FINL := Lib.hid finl
      clear finl hx1 hx2 hF1 hF2 hL1 hL2' hR1 hR2' hL12 hR12 hEr hLs hRs hLR hx
      by_cases v1 : st < m
      · by_cases v2 : m < en
        · have z1 : (st : Int) < (m : Int) := by omega
          have z2 : (m : Int) < (en : Int) := by omega
          go_wp2_with fail
          refine (rot_any n c st m en g _ enc rest (p ++ L1) L2 R1 (R2 ++ q) wr (hE1.cast (by simp)) (by rw [List.length_append]; omega) (by omega) (by omega) (by omega) (by omega) (by simp only [List.length_append]; omega) hn2 hform ⟨gc, lb, rfl⟩).mono ?_
          rintro e WA ⟨rfl, hk7, hEA0⟩
          have hEA := hEA0.cast (ys := p ++ (L1 ++ R1) ++ (L2 ++ R2 ++ q)) (by simp)
          have hkA := hkr.trans hk7 (fun _ _ h => h.elim id id)
          by_cases x1 : a < st
          · by_cases x2 : st < M
            · have z1 : (a : Int) < (st : Int) := by omega
              have z2 : (st : Int) < (M : Int) := by omega
              go_wp2_with fail
              refine (IH a st M p L1 R1 (L2 ++ R2 ++ q) WA (by omega) (hEA.cast (by simp)) hp (by omega) (by omega) (by simp only [List.length_append]; omega) (by omega) (by omega) hs1 hs3 hc1 (hk.trans hkA (fun _ _ h => h.elim id id))).mono ?_
              rintro e WB ⟨rfl, S1, hP1, hS1, hk8, hEB⟩
              have hkB := hkA.trans hk8 (fun _ _ h => h.elim id id)
              have hS1l : S1.length = M - a := by rw [hP1.length_eq, List.length_append]; omega
              by_cases y1 : M < en
              · by_cases y2 : en < b
                · have z1 : (M : Int) < (en : Int) := by omega
                  have z2 : (en : Int) < (b : Int) := by omega
                  go_wp2_with fail
                  refine (IH M en b (p ++ S1) L2 R2 q WB (by omega) (hEB.cast (by simp)) (by rw [List.length_append, hS1l]; omega) (by omega) (by omega) hq (by omega) (by omega) hs2 hs4 hc2 (hk.trans hkB (fun _ _ h => h.elim id id))).mono ?_
                  rintro e WC ⟨rfl, S2, hP2, hS2, hk9, hEC⟩
                  have hkC := hkB.trans hk9 (fun _ _ h => h.elim id id)
                  go_wp2
                  go_end0
                  exact ⟨rfl, S1 ++ S2, (FINL.out _ _ hP1 hS1 hP2 hS2).1, (FINL.out _ _ hP1 hS1 hP2 hS2).2, hkC, hEC.cast (by simp)⟩
                · have z1 : (M : Int) < (en : Int) := by omega
                  have z2 : ¬ (en : Int) < (b : Int) := by omega
                  go_wp2
                  go_end0
                  exact ⟨rfl, S1 ++ (L2 ++ R2), (FINL.out _ _ hP1 hS1 (List.Perm.refl _) (by rw [List.eq_nil_of_length_eq_zero (l := R2) (by omega), List.append_nil]; exact hs2)).1, (FINL.out _ _ hP1 hS1 (List.Perm.refl _) (by rw [List.eq_nil_of_length_eq_zero (l := R2) (by omega), List.append_nil]; exact hs2)).2, hkB, hEB.cast (by simp)⟩
              · have z1 : ¬ (M : Int) < (en : Int) := by omega
                go_wp2
                go_end0
                exact ⟨rfl, S1 ++ (L2 ++ R2), (FINL.out _ _ hP1 hS1 (List.Perm.refl _) (by rw [List.eq_nil_of_length_eq_zero (l := L2) (by omega), List.nil_append]; exact hs4)).1, (FINL.out _ _ hP1 hS1 (List.Perm.refl _) (by rw [List.eq_nil_of_length_eq_zero (l := L2) (by omega), List.nil_append]; exact hs4)).2, hkB, hEB.cast (by simp)⟩
            · have z1 : (a : Int) < (st : Int) := by omega
              have z2 : ¬ (st : Int) < (M : Int) := by omega
              obtain ⟨S1, hP1, hS1, hEB⟩ : ∃ S1, S1.Perm (L1 ++ R1) ∧ S1.Pairwise (Lt cf) ∧ El enc rest g (p ++ S1 ++ (L2 ++ R2 ++ q)) WA := ⟨L1 ++ R1, List.Perm.refl _, by rw [List.eq_nil_of_length_eq_zero (l := R1) (by omega), List.append_nil]; exact hs1, hEA.cast (by simp)⟩
              obtain ⟨WB, hWB⟩ : ∃ WB, WA = WB := ⟨_, rfl⟩
              have hkB := hkA
              subst hWB
              have hS1l : S1.length = M - a := by rw [hP1.length_eq, List.length_append]; omega
              by_cases y1 : M < en
              · by_cases y2 : en < b
                · have z1 : (M : Int) < (en : Int) := by omega
                  have z2 : (en : Int) < (b : Int) := by omega
                  go_wp2_with fail
                  refine (IH M en b (p ++ S1) L2 R2 q WA (by omega) (hEB.cast (by simp)) (by rw [List.length_append, hS1l]; omega) (by omega) (by omega) hq (by omega) (by omega) hs2 hs4 hc2 (hk.trans hkB (fun _ _ h => h.elim id id))).mono ?_
                  rintro e WC ⟨rfl, S2, hP2, hS2, hk9, hEC⟩
                  have hkC := hkB.trans hk9 (fun _ _ h => h.elim id id)
                  go_wp2
                  go_end0
                  exact ⟨rfl, S1 ++ S2, (FINL.out _ _ hP1 hS1 hP2 hS2).1, (FINL.out _ _ hP1 hS1 hP2 hS2).2, hkC, hEC.cast (by simp)⟩
                · have z1 : (M : Int) < (en : Int) := by omega
                  have z2 : ¬ (en : Int) < (b : Int) := by omega
                  go_wp2
                  go_end0
                  exact ⟨rfl, S1 ++ (L2 ++ R2), (FINL.out _ _ hP1 hS1 (List.Perm.refl _) (by rw [List.eq_nil_of_length_eq_zero (l := R2) (by omega), List.append_nil]; exact hs2)).1, (FINL.out _ _ hP1 hS1 (List.Perm.refl _) (by rw [List.eq_nil_of_length_eq_zero (l := R2) (by omega), List.append_nil]; exact hs2)).2, hkB, hEB.cast (by simp)⟩
              · have z1 : ¬ (M : Int) < (en : Int) := by omega
                go_wp2
                go_end0
                exact ⟨rfl, S1 ++ (L2 ++ R2), (FINL.out _ _ hP1 hS1 (List.Perm.refl _) (by rw [List.eq_nil_of_length_eq_zero (l := L2) (by omega), List.nil_append]; exact hs4)).1, (FINL.out _ _ hP1 hS1 (List.Perm.refl _) (by rw [List.eq_nil_of_length_eq_zero (l := L2) (by omega), List.nil_append]; exact hs4)).2, hkB, hEB.cast (by simp)⟩
          · have z1 : ¬ (a : Int) < (st : Int) := by omega
            obtain ⟨S1, hP1, hS1, hEB⟩ : ∃ S1, S1.Perm (L1 ++ R1) ∧ S1.Pairwise (Lt cf) ∧ El enc rest g (p ++ S1 ++ (L2 ++ R2 ++ q)) WA := ⟨L1 ++ R1, List.Perm.refl _, by rw [List.eq_nil_of_length_eq_zero (l := L1) (by omega), List.nil_append]; exact hs3, hEA.cast (by simp)⟩
            obtain ⟨WB, hWB⟩ : ∃ WB, WA = WB := ⟨_, rfl⟩
            have hkB := hkA
            subst hWB
            have hS1l : S1.length = M - a := by rw [hP1.length_eq, List.length_append]; omega
            by_cases y1 : M < en
            · by_cases y2 : en < b
              · have z1 : (M : Int) < (en : Int) := by omega
                have z2 : (en : Int) < (b : Int) := by omega
                go_wp2_with fail
                refine (IH M en b (p ++ S1) L2 R2 q WA (by omega) (hEB.cast (by simp)) (by rw [List.length_append, hS1l]; omega) (by omega) (by omega) hq (by omega) (by omega) hs2 hs4 hc2 (hk.trans hkB (fun _ _ h => h.elim id id))).mono ?_
                rintro e WC ⟨rfl, S2, hP2, hS2, hk9, hEC⟩
                have hkC := hkB.trans hk9 (fun _ _ h => h.elim id id)
                go_wp2
                go_end0
                exact ⟨rfl, S1 ++ S2, (FINL.out _ _ hP1 hS1 hP2 hS2).1, (FINL.out _ _ hP1 hS1 hP2 hS2).2, hkC, hEC.cast (by simp)⟩
              · have z1 : (M : Int) < (en : Int) := by omega
                have z2 : ¬ (en : Int) < (b : Int) := by omega
                go_wp2
                go_end0
                exact ⟨rfl, S1 ++ (L2 ++ R2), (FINL.out _ _ hP1 hS1 (List.Perm.refl _) (by rw [List.eq_nil_of_length_eq_zero (l := R2) (by omega), List.append_nil]; exact hs2)).1, (FINL.out _ _ hP1 hS1 (List.Perm.refl _) (by rw [List.eq_nil_of_length_eq_zero (l := R2) (by omega), List.append_nil]; exact hs2)).2, hkB, hEB.cast (by simp)⟩
            · have z1 : ¬ (M : Int) < (en : Int) := by omega
              go_wp2
              go_end0
              exact ⟨rfl, S1 ++ (L2 ++ R2), (FINL.out _ _ hP1 hS1 (List.Perm.refl _) (by rw [List.eq_nil_of_length_eq_zero (l := L2) (by omega), List.nil_append]; exact hs4)).1, (FINL.out _ _ hP1 hS1 (List.Perm.refl _) (by rw [List.eq_nil_of_length_eq_zero (l := L2) (by omega), List.nil_append]; exact hs4)).2, hkB, hEB.cast (by simp)⟩
        · have z1 : (st : Int) < (m : Int) := by omega
          have z2 : ¬ (m : Int) < (en : Int) := by omega
          have hEA := hE1.cast (ys := p ++ (L1 ++ R1) ++ (L2 ++ R2 ++ q)) (by rw [List.eq_nil_of_length_eq_zero (l := R1) (by omega)]; simp)
          have hkA := hkr
          by_cases x1 : a < st
          · by_cases x2 : st < M
            · have z1 : (a : Int) < (st : Int) := by omega
              have z2 : (st : Int) < (M : Int) := by omega
              go_wp2_with fail
              refine (IH a st M p L1 R1 (L2 ++ R2 ++ q) wr (by omega) (hEA.cast (by simp)) hp (by omega) (by omega) (by simp only [List.length_append]; omega) (by omega) (by omega) hs1 hs3 hc1 (hk.trans hkA (fun _ _ h => h.elim id id))).mono ?_
              rintro e WB ⟨rfl, S1, hP1, hS1, hk8, hEB⟩
              have hkB := hkA.trans hk8 (fun _ _ h => h.elim id id)
              have hS1l : S1.length = M - a := by rw [hP1.length_eq, List.length_append]; omega
              by_cases y1 : M < en
              · by_cases y2 : en < b
                · have z1 : (M : Int) < (en : Int) := by omega
                  have z2 : (en : Int) < (b : Int) := by omega
                  go_wp2_with fail
                  refine (IH M en b (p ++ S1) L2 R2 q WB (by omega) (hEB.cast (by simp)) (by rw [List.length_append, hS1l]; omega) (by omega) (by omega) hq (by omega) (by omega) hs2 hs4 hc2 (hk.trans hkB (fun _ _ h => h.elim id id))).mono ?_
                  rintro e WC ⟨rfl, S2, hP2, hS2, hk9, hEC⟩
                  have hkC := hkB.trans hk9 (fun _ _ h => h.elim id id)
                  go_wp2
                  go_end0
                  exact ⟨rfl, S1 ++ S2, (FINL.out _ _ hP1 hS1 hP2 hS2).1, (FINL.out _ _ hP1 hS1 hP2 hS2).2, hkC, hEC.cast (by simp)⟩
                · have z1 : (M : Int) < (en : Int) := by omega
                  have z2 : ¬ (en : Int) < (b : Int) := by omega
                  go_wp2
                  go_end0
                  exact ⟨rfl, S1 ++ (L2 ++ R2), (FINL.out _ _ hP1 hS1 (List.Perm.refl _) (by rw [List.eq_nil_of_length_eq_zero (l := R2) (by omega), List.append_nil]; exact hs2)).1, (FINL.out _ _ hP1 hS1 (List.Perm.refl _) (by rw [List.eq_nil_of_length_eq_zero (l := R2) (by omega), List.append_nil]; exact hs2)).2, hkB, hEB.cast (by simp)⟩
              · have z1 : ¬ (M : Int) < (en : Int) := by omega
                go_wp2
                go_end0
                exact ⟨rfl, S1 ++ (L2 ++ R2), (FINL.out _ _ hP1 hS1 (List.Perm.refl _) (by rw [List.eq_nil_of_length_eq_zero (l := L2) (by omega), List.nil_append]; exact hs4)).1, (FINL.out _ _ hP1 hS1 (List.Perm.refl _) (by rw [List.eq_nil_of_length_eq_zero (l := L2) (by omega), List.nil_append]; exact hs4)).2, hkB, hEB.cast (by simp)⟩
            · have z1 : (a : Int) < (st : Int) := by omega
              have z2 : ¬ (st : Int) < (M : Int) := by omega
              obtain ⟨S1, hP1, hS1, hEB⟩ : ∃ S1, S1.Perm (L1 ++ R1) ∧ S1.Pairwise (Lt cf) ∧ El enc rest g (p ++ S1 ++ (L2 ++ R2 ++ q)) wr := ⟨L1 ++ R1, List.Perm.refl _, by rw [List.eq_nil_of_length_eq_zero (l := R1) (by omega), List.append_nil]; exact hs1, hEA.cast (by simp)⟩
              obtain ⟨WB, hWB⟩ : ∃ WB, wr = WB := ⟨_, rfl⟩
              have hkB := hkA
              subst hWB
              have hS1l : S1.length = M - a := by rw [hP1.length_eq, List.length_append]; omega
              by_cases y1 : M < en
              · by_cases y2 : en < b
                · have z1 : (M : Int) < (en : Int) := by omega
                  have z2 : (en : Int) < (b : Int) := by omega
                  go_wp2_with fail
                  refine (IH M en b (p ++ S1) L2 R2 q wr (by omega) (hEB.cast (by simp)) (by rw [List.length_append, hS1l]; omega) (by omega) (by omega) hq (by omega) (by omega) hs2 hs4 hc2 (hk.trans hkB (fun _ _ h => h.elim id id))).mono ?_
                  rintro e WC ⟨rfl, S2, hP2, hS2, hk9, hEC⟩
                  have hkC := hkB.trans hk9 (fun _ _ h => h.elim id id)
                  go_wp2
                  go_end0
                  exact ⟨rfl, S1 ++ S2, (FINL.out _ _ hP1 hS1 hP2 hS2).1, (FINL.out _ _ hP1 hS1 hP2 hS2).2, hkC, hEC.cast (by simp)⟩
                · have z1 : (M : Int) < (en : Int) := by omega
                  have z2 : ¬ (en : Int) < (b : Int) := by omega
                  go_wp2
                  go_end0
                  exact ⟨rfl, S1 ++ (L2 ++ R2), (FINL.out _ _ hP1 hS1 (List.Perm.refl _) (by rw [List.eq_nil_of_length_eq_zero (l := R2) (by omega), List.append_nil]; exact hs2)).1, (FINL.out _ _ hP1 hS1 (List.Perm.refl _) (by rw [List.eq_nil_of_length_eq_zero (l := R2) (by omega), List.append_nil]; exact hs2)).2, hkB, hEB.cast (by simp)⟩
              · have z1 : ¬ (M : Int) < (en : Int) := by omega
                go_wp2
                go_end0
                exact ⟨rfl, S1 ++ (L2 ++ R2), (FINL.out _ _ hP1 hS1 (List.Perm.refl _) (by rw [List.eq_nil_of_length_eq_zero (l := L2) (by omega), List.nil_append]; exact hs4)).1, (FINL.out _ _ hP1 hS1 (List.Perm.refl _) (by rw [List.eq_nil_of_length_eq_zero (l := L2) (by omega), List.nil_append]; exact hs4)).2, hkB, hEB.cast (by simp)⟩
          · have z1 : ¬ (a : Int) < (st : Int) := by omega
            obtain ⟨S1, hP1, hS1, hEB⟩ : ∃ S1, S1.Perm (L1 ++ R1) ∧ S1.Pairwise (Lt cf) ∧ El enc rest g (p ++ S1 ++ (L2 ++ R2 ++ q)) wr := ⟨L1 ++ R1, List.Perm.refl _, by rw [List.eq_nil_of_length_eq_zero (l := L1) (by omega), List.nil_append]; exact hs3, hEA.cast (by simp)⟩
            obtain ⟨WB, hWB⟩ : ∃ WB, wr = WB := ⟨_, rfl⟩
            have hkB := hkA
            subst hWB
            have hS1l : S1.length = M - a := by rw [hP1.length_eq, List.length_append]; omega
            by_cases y1 : M < en
            · by_cases y2 : en < b
              · have z1 : (M : Int) < (en : Int) := by omega
                have z2 : (en : Int) < (b : Int) := by omega
                go_wp2_with fail
                refine (IH M en b (p ++ S1) L2 R2 q wr (by omega) (hEB.cast (by simp)) (by rw [List.length_append, hS1l]; omega) (by omega) (by omega) hq (by omega) (by omega) hs2 hs4 hc2 (hk.trans hkB (fun _ _ h => h.elim id id))).mono ?_
                rintro e WC ⟨rfl, S2, hP2, hS2, hk9, hEC⟩
                have hkC := hkB.trans hk9 (fun _ _ h => h.elim id id)
                go_wp2
                go_end0
                exact ⟨rfl, S1 ++ S2, (FINL.out _ _ hP1 hS1 hP2 hS2).1, (FINL.out _ _ hP1 hS1 hP2 hS2).2, hkC, hEC.cast (by simp)⟩
              · have z1 : (M : Int) < (en : Int) := by omega
                have z2 : ¬ (en : Int) < (b : Int) := by omega
                go_wp2
                go_end0
                exact ⟨rfl, S1 ++ (L2 ++ R2), (FINL.out _ _ hP1 hS1 (List.Perm.refl _) (by rw [List.eq_nil_of_length_eq_zero (l := R2) (by omega), List.append_nil]; exact hs2)).1, (FINL.out _ _ hP1 hS1 (List.Perm.refl _) (by rw [List.eq_nil_of_length_eq_zero (l := R2) (by omega), List.append_nil]; exact hs2)).2, hkB, hEB.cast (by simp)⟩
            · have z1 : ¬ (M : Int) < (en : Int) := by omega
              go_wp2
              go_end0
              exact ⟨rfl, S1 ++ (L2 ++ R2), (FINL.out _ _ hP1 hS1 (List.Perm.refl _) (by rw [List.eq_nil_of_length_eq_zero (l := L2) (by omega), List.nil_append]; exact hs4)).1, (FINL.out _ _ hP1 hS1 (List.Perm.refl _) (by rw [List.eq_nil_of_length_eq_zero (l := L2) (by omega), List.nil_append]; exact hs4)).2, hkB, hEB.cast (by simp)⟩
      · have z1 : ¬ (st : Int) < (m : Int) := by omega
        have hEA := hE1.cast (ys := p ++ (L1 ++ R1) ++ (L2 ++ R2 ++ q)) (by rw [List.eq_nil_of_length_eq_zero (l := L2) (by omega)]; simp)
        have hkA := hkr
        by_cases x1 : a < st
        · by_cases x2 : st < M
          · have z1 : (a : Int) < (st : Int) := by omega
            have z2 : (st : Int) < (M : Int) := by omega
            go_wp2_with fail
            refine (IH a st M p L1 R1 (L2 ++ R2 ++ q) wr (by omega) (hEA.cast (by simp)) hp (by omega) (by omega) (by simp only [List.length_append]; omega) (by omega) (by omega) hs1 hs3 hc1 (hk.trans hkA (fun _ _ h => h.elim id id))).mono ?_
            rintro e WB ⟨rfl, S1, hP1, hS1, hk8, hEB⟩
            have hkB := hkA.trans hk8 (fun _ _ h => h.elim id id)
            have hS1l : S1.length = M - a := by rw [hP1.length_eq, List.length_append]; omega
            by_cases y1 : M < en
            · by_cases y2 : en < b
              · have z1 : (M : Int) < (en : Int) := by omega
                have z2 : (en : Int) < (b : Int) := by omega
                go_wp2_with fail
                refine (IH M en b (p ++ S1) L2 R2 q WB (by omega) (hEB.cast (by simp)) (by rw [List.length_append, hS1l]; omega) (by omega) (by omega) hq (by omega) (by omega) hs2 hs4 hc2 (hk.trans hkB (fun _ _ h => h.elim id id))).mono ?_
                rintro e WC ⟨rfl, S2, hP2, hS2, hk9, hEC⟩
                have hkC := hkB.trans hk9 (fun _ _ h => h.elim id id)
                go_wp2
                go_end0
                exact ⟨rfl, S1 ++ S2, (FINL.out _ _ hP1 hS1 hP2 hS2).1, (FINL.out _ _ hP1 hS1 hP2 hS2).2, hkC, hEC.cast (by simp)⟩
              · have z1 : (M : Int) < (en : Int) := by omega
                have z2 : ¬ (en : Int) < (b : Int) := by omega
                go_wp2
                go_end0
                exact ⟨rfl, S1 ++ (L2 ++ R2), (FINL.out _ _ hP1 hS1 (List.Perm.refl _) (by rw [List.eq_nil_of_length_eq_zero (l := R2) (by omega), List.append_nil]; exact hs2)).1, (FINL.out _ _ hP1 hS1 (List.Perm.refl _) (by rw [List.eq_nil_of_length_eq_zero (l := R2) (by omega), List.append_nil]; exact hs2)).2, hkB, hEB.cast (by simp)⟩
            · have z1 : ¬ (M : Int) < (en : Int) := by omega
              go_wp2
              go_end0
              exact ⟨rfl, S1 ++ (L2 ++ R2), (FINL.out _ _ hP1 hS1 (List.Perm.refl _) (by rw [List.eq_nil_of_length_eq_zero (l := L2) (by omega), List.nil_append]; exact hs4)).1, (FINL.out _ _ hP1 hS1 (List.Perm.refl _) (by rw [List.eq_nil_of_length_eq_zero (l := L2) (by omega), List.nil_append]; exact hs4)).2, hkB, hEB.cast (by simp)⟩
          · have z1 : (a : Int) < (st : Int) := by omega
            have z2 : ¬ (st : Int) < (M : Int) := by omega
            obtain ⟨S1, hP1, hS1, hEB⟩ : ∃ S1, S1.Perm (L1 ++ R1) ∧ S1.Pairwise (Lt cf) ∧ El enc rest g (p ++ S1 ++ (L2 ++ R2 ++ q)) wr := ⟨L1 ++ R1, List.Perm.refl _, by rw [List.eq_nil_of_length_eq_zero (l := R1) (by omega), List.append_nil]; exact hs1, hEA.cast (by simp)⟩
            obtain ⟨WB, hWB⟩ : ∃ WB, wr = WB := ⟨_, rfl⟩
            have hkB := hkA
            subst hWB
            have hS1l : S1.length = M - a := by rw [hP1.length_eq, List.length_append]; omega
            by_cases y1 : M < en
            · by_cases y2 : en < b
              · have z1 : (M : Int) < (en : Int) := by omega
                have z2 : (en : Int) < (b : Int) := by omega
                go_wp2_with fail
                refine (IH M en b (p ++ S1) L2 R2 q wr (by omega) (hEB.cast (by simp)) (by rw [List.length_append, hS1l]; omega) (by omega) (by omega) hq (by omega) (by omega) hs2 hs4 hc2 (hk.trans hkB (fun _ _ h => h.elim id id))).mono ?_
                rintro e WC ⟨rfl, S2, hP2, hS2, hk9, hEC⟩
                have hkC := hkB.trans hk9 (fun _ _ h => h.elim id id)
                go_wp2
                go_end0
                exact ⟨rfl, S1 ++ S2, (FINL.out _ _ hP1 hS1 hP2 hS2).1, (FINL.out _ _ hP1 hS1 hP2 hS2).2, hkC, hEC.cast (by simp)⟩
              · have z1 : (M : Int) < (en : Int) := by omega
                have z2 : ¬ (en : Int) < (b : Int) := by omega
                go_wp2
                go_end0
                exact ⟨rfl, S1 ++ (L2 ++ R2), (FINL.out _ _ hP1 hS1 (List.Perm.refl _) (by rw [List.eq_nil_of_length_eq_zero (l := R2) (by omega), List.append_nil]; exact hs2)).1, (FINL.out _ _ hP1 hS1 (List.Perm.refl _) (by rw [List.eq_nil_of_length_eq_zero (l := R2) (by omega), List.append_nil]; exact hs2)).2, hkB, hEB.cast (by simp)⟩
            · have z1 : ¬ (M : Int) < (en : Int) := by omega
              go_wp2
              go_end0
              exact ⟨rfl, S1 ++ (L2 ++ R2), (FINL.out _ _ hP1 hS1 (List.Perm.refl _) (by rw [List.eq_nil_of_length_eq_zero (l := L2) (by omega), List.nil_append]; exact hs4)).1, (FINL.out _ _ hP1 hS1 (List.Perm.refl _) (by rw [List.eq_nil_of_length_eq_zero (l := L2) (by omega), List.nil_append]; exact hs4)).2, hkB, hEB.cast (by simp)⟩
        · have z1 : ¬ (a : Int) < (st : Int) := by omega
          obtain ⟨S1, hP1, hS1, hEB⟩ : ∃ S1, S1.Perm (L1 ++ R1) ∧ S1.Pairwise (Lt cf) ∧ El enc rest g (p ++ S1 ++ (L2 ++ R2 ++ q)) wr := ⟨L1 ++ R1, List.Perm.refl _, by rw [List.eq_nil_of_length_eq_zero (l := L1) (by omega), List.nil_append]; exact hs3, hEA.cast (by simp)⟩
          obtain ⟨WB, hWB⟩ : ∃ WB, wr = WB := ⟨_, rfl⟩
          have hkB := hkA
          subst hWB
          have hS1l : S1.length = M - a := by rw [hP1.length_eq, List.length_append]; omega
          by_cases y1 : M < en
          · by_cases y2 : en < b
            · have z1 : (M : Int) < (en : Int) := by omega
              have z2 : (en : Int) < (b : Int) := by omega
              go_wp2_with fail
              refine (IH M en b (p ++ S1) L2 R2 q wr (by omega) (hEB.cast (by simp)) (by rw [List.length_append, hS1l]; omega) (by omega) (by omega) hq (by omega) (by omega) hs2 hs4 hc2 (hk.trans hkB (fun _ _ h => h.elim id id))).mono ?_
              rintro e WC ⟨rfl, S2, hP2, hS2, hk9, hEC⟩
              have hkC := hkB.trans hk9 (fun _ _ h => h.elim id id)
              go_wp2
              go_end0
              exact ⟨rfl, S1 ++ S2, (FINL.out _ _ hP1 hS1 hP2 hS2).1, (FINL.out _ _ hP1 hS1 hP2 hS2).2, hkC, hEC.cast (by simp)⟩
            · have z1 : (M : Int) < (en : Int) := by omega
              have z2 : ¬ (en : Int) < (b : Int) := by omega
              go_wp2
              go_end0
              exact ⟨rfl, S1 ++ (L2 ++ R2), (FINL.out _ _ hP1 hS1 (List.Perm.refl _) (by rw [List.eq_nil_of_length_eq_zero (l := R2) (by omega), List.append_nil]; exact hs2)).1, (FINL.out _ _ hP1 hS1 (List.Perm.refl _) (by rw [List.eq_nil_of_length_eq_zero (l := R2) (by omega), List.append_nil]; exact hs2)).2, hkB, hEB.cast (by simp)⟩
          · have z1 : ¬ (M : Int) < (en : Int) := by omega
            go_wp2
            go_end0
            exact ⟨rfl, S1 ++ (L2 ++ R2), (FINL.out _ _ hP1 hS1 (List.Perm.refl _) (by rw [List.eq_nil_of_length_eq_zero (l := L2) (by omega), List.nil_append]; exact hs4)).1, (FINL.out _ _ hP1 hS1 (List.Perm.refl _) (by rw [List.eq_nil_of_length_eq_zero (l := L2) (by omega), List.nil_append]; exact hs4)).2, hkB, hEB.cast (by simp)⟩
end Go.Proofs.YtihdlalbgdighaaDoor.QV
/- slices.SortStableFunc over rows, walked: symMerge. -/
namespace Go.Proofs.YtihdlalbgdighaaDoor.QV
open Go.RowKit Go.Proofs.YtihdlalbgdighaaDoorW.PrintWords Go.Proofs.YtihdlalbgdighaaDoor.SeqW Go.Shelf Go.Proofs.YtihdlalbgdighaaDoor.Op Go.Proofs.YtihdlalbgdighaaDoor.Stab
set_option linter.unusedVariables false
set_option linter.unusedSimpArgs false

set_option maxRecDepth 100000 in
set_option maxHeartbeats 16000000 in
theorem sym_le (g n c : Nat) (cf : Nat → Nat → Int) (gc : Nat) (lb : Array Value) (hcf : CmpOk cf) (enc : Nat → Value) (rest : List Value) (w0 : World) (hn2 : n ≤ 5864062014805)
    (hcmp : CmpAt cf enc gc lb g w0) (eg : ∀ args w, (callFunc gc args).run Tryd.prog w = .ok (.enter gc args) w) (hform : ∀ x, ∃ A m k, enc x = .slice A m k)
    (N : Nat) (IH : SymAt g n c cf gc lb enc rest w0 N) (a m b : Nat) (p L R q : List Nat) (W : World) (hN : b - a ≤ N + 1) (hx : El enc rest g (p ++ L ++ R ++ q) W) (hp : p.length = a) (hL : a + L.length = m) (hR : m + R.length = b) (hq : b + q.length = n) (hL2 : 2 ≤ L.length) (hR2 : 2 ≤ R.length)
    (hLs : L.Pairwise (Lt cf)) (hRs : R.Pairwise (Lt cf)) (hLR : ∀ x ∈ L, ∀ y ∈ R, x < y) (hk : Seq.Kpt (fun i => i = g) w0 W) (hside : ¬ (a + b) / 2 < m) :
    Calls Tryd.prog 101 #[.slice (some ⟨g, 0, none⟩) n c, .int .i64 a, .int .i64 m, .int .i64 b, .func (.func gc) #[] lb] W fun e W' => e = .returned (.tuple #[]) ∧
        ∃ S, S.Perm (L ++ R) ∧ S.Pairwise (Lt cf) ∧ Seq.Kpt (fun i => i = g) W W' ∧ El enc rest g (p ++ S ++ q) W' := by
  have mixed : Tryd.prog.follows .mixedOrders = true := by kernel_rfl
  obtain ⟨ll, hll⟩ : ∃ ll : Nat, L.length = ll := ⟨_, rfl⟩
  obtain ⟨lr, hlr⟩ : ∃ lr : Nat, R.length = lr := ⟨_, rfl⟩
  have e1 : (m : Int) - (a : Int) = (ll : Int) := by omega
  have e2 : IntKind.i64.wrap (ll : Int) = (ll : Int) := wrapN (by omega)
  have e3' : ¬ (ll : Int) = 1 := by omega
  have e3n : ¬ ll = 1 := by omega
  have e4 : (b : Int) - (m : Int) = (lr : Int) := by omega
  have e5 : IntKind.i64.wrap (lr : Int) = (lr : Int) := wrapN (by omega)
  have e6' : ¬ (lr : Int) = 1 := by omega
  have e3 : ((ll : Int) == 1) = false := by simp; omega
  have e6 : ((lr : Int) == 1) = false := by simp; omega
  have e6n : ¬ lr = 1 := by omega
  obtain ⟨s0, hs0⟩ : ∃ s0 : Nat, a + b = s0 := ⟨_, rfl⟩
  obtain ⟨M, hM⟩ : ∃ M : Nat, s0 / 2 = M := ⟨_, rfl⟩
  obtain ⟨nn, hnn⟩ : ∃ nn : Nat, M + m = nn := ⟨_, rfl⟩
  obtain ⟨pp, hpp⟩ : ∃ pp : Nat, nn - 1 = pp := ⟨_, rfl⟩
  have f1 : (a : Int) + (b : Int) = (s0 : Int) := by omega
  have f2 : IntKind.i64.wrap (s0 : Int) = (s0 : Int) := wrapN (by omega)
  have f3 : (s0 : Int) / 2 = (M : Int) := by omega
  have f4 : (M : Int) + (m : Int) = (nn : Int) := by omega
  have f5 : IntKind.i64.wrap (nn : Int) = (nn : Int) := wrapN (by omega)
  have f6 : (nn : Int) - 1 = (pp : Int) := by omega
  have f7 : IntKind.i64.wrap (pp : Int) = (pp : Int) := wrapN (by omega)
  have hgz : ¬ (M : Int) < (m : Int) := by omega
  go_enter Tryd.func101, Tryd.ntmps101
  go_wp2_with fail
  clear e1 e2 e3 e3' e3n e4 e5 e6 e6' e6n f1 f2 f3 f4 f5 f6 f7 hgz
  go_loopw [20, 21] (fun iv jv wr => ∃ (st r : Nat), iv = .int .i64 (st : Int) ∧ jv = .int .i64 (r : Int) ∧ a ≤ st ∧ st ≤ r ∧ r ≤ m ∧ (∀ u ∈ L.take (st - a), ∀ v ∈ R.drop (nn - st - m), Lt cf u v) ∧ (∀ v ∈ R.take (nn - r - m), ∀ u ∈ L.drop (r - a), Lt cf v u) ∧ El enc rest g (p ++ L ++ R ++ q) wr ∧ Seq.Kpt (fun i => i = g) W wr) (fun iv jv _ => (intOf jv).toNat - (intOf iv).toNat)
  case atStart => exact ⟨a, m, rfl, rfl, Nat.le_refl _, by omega, Nat.le_refl _, by rw [show a - a = 0 by omega]; simp, by rw [List.drop_of_length_le (l := L) (by omega)]; simp, hx, Seq.Kpt.refl _ _⟩
  case round =>
    obtain ⟨st, r, rfl, rfl, hst, hsr, hrh, hF1, hF2, hEr, hkr⟩ := hrel
    by_cases hlt : st < r
    · have hlz : (st : Int) < (r : Int) := by omega
      obtain ⟨s, hs⟩ : ∃ s : Nat, st + r = s := ⟨_, rfl⟩
      obtain ⟨h, hh⟩ : ∃ h : Nat, s / 2 = h := ⟨_, rfl⟩
      obtain ⟨d, hd⟩ : ∃ d : Nat, pp - h = d := ⟨_, rfl⟩
      have w1 : (st : Int) + (r : Int) = (s : Int) := by omega
      have w2 : IntKind.i64.wrap (s : Int) = (s : Int) := wrapN (by omega)
      have w3 : (s : Int) / 2 = (h : Int) := by omega
      have w4 : (h : Int) < (n : Int) := by omega
      have w4' : h < n := by omega
      have w5 : (pp : Int) - (h : Int) = (d : Int) := by omega
      have w6 : IntKind.i64.wrap (d : Int) = (d : Int) := wrapN (by omega)
      have w7 : (d : Int) < (n : Int) := by omega
      have w7' : d < n := by omega
      obtain ⟨u0, hu0, hu1, hu2⟩ := at_mid (s := L) (k := h - a) (by omega)
      obtain ⟨v0, hv0, hv1, hv2⟩ := at_mid (s := R) (k := d - m) (by omega)
      obtain ⟨TL, hTL⟩ : ∃ T, L.take (h - a) = T := ⟨_, rfl⟩
      obtain ⟨DL, hDL⟩ : ∃ D, L.drop (h - a + 1) = D := ⟨_, rfl⟩
      obtain ⟨TR, hTR⟩ : ∃ T, R.take (d - m) = T := ⟨_, rfl⟩
      obtain ⟨DR, hDR⟩ : ∃ D, R.drop (d - m + 1) = D := ⟨_, rfl⟩
      have lTL : TL.length = h - a := by rw [← hTL, List.length_take]; omega
      have lTR : TR.length = d - m := by rw [← hTR, List.length_take]; omega
      have lDL : DL.length = ll - (h - a + 1) := by rw [← hDL, List.length_drop, hll]
      rw [hTL, hDL] at hu0
      rw [hTR, hDR] at hv0
      have hEe := hEr.cast (ys := p ++ (TL ++ u0 :: DL) ++ (TR ++ v0 :: DR) ++ q) (by rw [← hu0, ← hv0])
      have HU := Lib.hid (And.intro hu0 (And.intro hu1 hu2))
      have HV := Lib.hid (And.intro hv0 (And.intro hv1 hv2))
      clear hu0 hu1 hu2 hv0 hv1 hv2 hTL hDL hTR hDR
      have c1 : wr.cell? ⟨g, d, none⟩ = some (enc v0) := (hEe.cast (ys := (p ++ (TL ++ u0 :: DL) ++ TR) ++ v0 :: (DR ++ q)) (by simp)).at (by first | omega | (simp; omega))
      have c0 : wr.cell? ⟨g, h, none⟩ = some (enc u0) := (hEe.cast (ys := (p ++ TL) ++ u0 :: (DL ++ (TR ++ v0 :: DR) ++ q)) (by simp)).at (by first | omega | (simp; omega))
      obtain ⟨z, hz⟩ : ∃ z, cf v0 u0 = z := ⟨_, rfl⟩
      go_wp2_with fail
      refine (wpIn_wide (n := 0)).1 ?_
      refine wpIn_region_R (l := 0) 14 (S := fun V => V.cell? ⟨g, d, none⟩ = some (enc v0) ∧ V.cell? ⟨g, h, none⟩ = some (enc u0)) (by kernel_rfl) ⟨c1, c0⟩ (fun hS0 => ?_)
      refine wpAnyR_take (i := 0) (oi := ⟨some 158, _, _, _, _, _⟩) (v := ?_) (by kernel_rfl) (by kernel_rfl) rfl (by kernel_rfl) (by kernel_rfl) (by kernel_rfl) (fun _ _ _ h => h) (Or.inl ⟨by rfl, ?_⟩) (by assumption) ?_
      rotate_left
      · intro w hSw; (try dsimp only at hSw); (try go_split_ands); go_simp; (try (with_reducible rfl))
      (try simp only [Act.put, List.setIfInBounds_toArray, List.set_cons_zero, List.set_cons_succ])
      refine wpAnyR_take (i := 1) (oi := ⟨some 159, _, _, _, _, _⟩) (v := ?_) (by kernel_rfl) (by kernel_rfl) rfl (by kernel_rfl) (by kernel_rfl) (by kernel_rfl) (fun _ _ _ h => h) (Or.inl ⟨by rfl, ?_⟩) (by assumption) ?_
      rotate_left
      · intro w hSw; (try dsimp only at hSw); (try go_split_ands); go_simp; (try (with_reducible rfl))
      (try simp only [Act.put, List.setIfInBounds_toArray, List.set_cons_zero, List.set_cons_succ])
      refine wpAnyR_take (i := 2) (oi := ⟨some 160, _, _, _, _, _⟩) (v := ?_) (by kernel_rfl) (by kernel_rfl) rfl (by kernel_rfl) (by kernel_rfl) (by kernel_rfl) (fun _ _ _ h => h) (Or.inl ⟨by rfl, ?_⟩) (by assumption) ?_
      rotate_left
      · intro w hSw; (try dsimp only at hSw); (try go_split_ands); go_simp; (try (with_reducible rfl))
      (try simp only [Act.put, List.setIfInBounds_toArray, List.set_cons_zero, List.set_cons_succ])
      refine wpAnyR_take (i := 3) (oi := ⟨some 161, _, _, _, _, _⟩) (v := ?_) (by kernel_rfl) (by kernel_rfl) rfl (by kernel_rfl) (by kernel_rfl) (by kernel_rfl) (fun _ _ _ h => h) (Or.inl ⟨by rfl, ?_⟩) (by assumption) ?_
      rotate_left
      · intro w hSw; (try dsimp only at hSw); (try go_split_ands); go_simp; (try (with_reducible rfl))
      (try simp only [Act.put, List.setIfInBounds_toArray, List.set_cons_zero, List.set_cons_succ])
      refine wpAnyR_take (i := 4) (oi := ⟨some 162, _, _, _, _, _⟩) (v := ?_) (by kernel_rfl) (by kernel_rfl) rfl (by kernel_rfl) (by kernel_rfl) (by kernel_rfl) (fun _ _ _ h => h) (Or.inl ⟨by rfl, ?_⟩) (by assumption) ?_
      rotate_left
      · intro w hSw; (try dsimp only at hSw); (try go_split_ands); go_simp; (try (with_reducible rfl))
      (try simp only [Act.put, List.setIfInBounds_toArray, List.set_cons_zero, List.set_cons_succ])
      refine wpAnyR_take (i := 5) (oi := ⟨some 163, _, _, _, _, _⟩) (v := ?_) (by kernel_rfl) (by kernel_rfl) rfl (by kernel_rfl) (by kernel_rfl) (by kernel_rfl) (fun _ _ _ h => h) (Or.inl ⟨by rfl, ?_⟩) (by assumption) ?_
      rotate_left
      · intro w hSw; (try dsimp only at hSw); (try go_split_ands); go_simp; (try (with_reducible rfl))
      (try simp only [Act.put, List.setIfInBounds_toArray, List.set_cons_zero, List.set_cons_succ])
      refine wpAnyR_take (i := 6) (oi := ⟨some 164, _, _, _, _, _⟩) (v := ?_) (by kernel_rfl) (by kernel_rfl) rfl (by kernel_rfl) (by kernel_rfl) (by kernel_rfl) (fun _ _ _ h => h) (Or.inl ⟨by rfl, ?_⟩) (by assumption) ?_
      rotate_left
      · intro w hSw; (try dsimp only at hSw); (try go_split_ands); go_simp; (try (with_reducible rfl))
      (try simp only [Act.put, List.setIfInBounds_toArray, List.set_cons_zero, List.set_cons_succ])
      refine wpAnyR_take (i := 7) (oi := ⟨some 165, _, _, _, _, _⟩) (v := ?_) (by kernel_rfl) (by kernel_rfl) rfl (by kernel_rfl) (by kernel_rfl) (by kernel_rfl) (fun _ _ _ h => h) (Or.inl ⟨by rfl, ?_⟩) (by assumption) ?_
      rotate_left
      · intro w hSw; (try dsimp only at hSw); (try go_split_ands); go_simp; (try (with_reducible rfl))
      (try simp only [Act.put, List.setIfInBounds_toArray, List.set_cons_zero, List.set_cons_succ])
      refine wpAnyR_take (i := 8) (oi := ⟨some 166, _, _, _, _, _⟩) (v := ?_) (by kernel_rfl) (by kernel_rfl) rfl (by kernel_rfl) (by kernel_rfl) (by kernel_rfl) (fun _ _ _ h => h) (Or.inl ⟨by rfl, ?_⟩) (by assumption) ?_
      rotate_left
      · intro w hSw; (try dsimp only at hSw); (try go_split_ands); go_simp; (try (with_reducible rfl))
      (try simp only [Act.put, List.setIfInBounds_toArray, List.set_cons_zero, List.set_cons_succ])
      refine wpAnyR_take (i := 9) (oi := ⟨some 167, _, _, _, _, _⟩) (v := ?_) (by kernel_rfl) (by kernel_rfl) rfl (by kernel_rfl) (by kernel_rfl) (by kernel_rfl) (fun _ _ _ h => h) (Or.inl ⟨by rfl, ?_⟩) (by assumption) ?_
      rotate_left
      · intro w hSw; (try dsimp only at hSw); (try go_split_ands); go_simp; (try (with_reducible rfl))
      (try simp only [Act.put, List.setIfInBounds_toArray, List.set_cons_zero, List.set_cons_succ])
      refine wpAnyR_take (i := 10) (oi := ⟨some 168, _, _, _, _, _⟩) (v := ?_) (by kernel_rfl) (by kernel_rfl) rfl (by kernel_rfl) (by kernel_rfl) (by kernel_rfl) (fun _ _ _ h => h) (Or.inl ⟨by rfl, ?_⟩) (by assumption) ?_
      rotate_left
      · intro w hSw; (try dsimp only at hSw); (try go_split_ands); go_simp; (try (with_reducible rfl))
      (try simp only [Act.put, List.setIfInBounds_toArray, List.set_cons_zero, List.set_cons_succ])
      refine wpAnyR_one (i := 11) (o := ⟨some 169, _, _, _, _, _⟩) (by kernel_rfl) (by kernel_rfl) rfl (fun K hK => ?_)
      go_simp
      refine (hcmp v0 u0 wr.drew ((hk.trans hkr (fun _ _ h => h.elim id id)).trans (Seq.Kpt.drew _ _) (fun _ _ h => h.elim id id))).mono ?_
      rintro e w5 ⟨rfl, hb5⟩
      rw [hz]
      have hb5' : Below wr.heap.size wr w5 := (below_drew (Below.refl _ wr)).trans hb5
      have hE5 := El.kept hEe hb5'
      have hk5 := hkr.trans (Seq.Kpt.of_new (fun i => i = g) hb5') (fun _ _ h => h.elim id id)
      have c15 : w5.cell? ⟨g, d, none⟩ = some (enc v0) := (hE5.cast (ys := (p ++ (TL ++ u0 :: DL) ++ TR) ++ v0 :: (DR ++ q)) (by simp)).at (by first | omega | (simp; omega))
      have c05 : w5.cell? ⟨g, h, none⟩ = some (enc u0) := (hE5.cast (ys := (p ++ TL) ++ u0 :: (DL ++ (TR ++ v0 :: DR) ++ q)) (by simp)).at (by first | omega | (simp; omega))
      have c55 := And.intro c15 c05
      (try dsimp only)
      refine hK.out _ _ (.inr c55) ?_
      clear hK K
      (try simp only [Act.put, List.setIfInBounds_toArray, List.set_cons_zero, List.set_cons_succ])
      by_cases hz0 : z < 0
      ·
        refine wpAnyR_take (i := 12) (oi := ⟨some 170, _, _, _, _, _⟩) (v := ?_) (by kernel_rfl) (by kernel_rfl) rfl (by kernel_rfl) (by kernel_rfl) (by kernel_rfl) (fun _ _ _ h => h) (Or.inl ⟨by rfl, ?_⟩) (by assumption) ?_
        rotate_left
        · intro w hSw; (try dsimp only at hSw); (try go_split_ands); go_simp; (try (with_reducible rfl))
        (try simp only [Act.put, List.setIfInBounds_toArray, List.set_cons_zero, List.set_cons_succ])
        refine wpAnyR_take (i := 13) (oi := ⟨some 171, _, _, _, _, _⟩) (v := ?_) (by kernel_rfl) (by kernel_rfl) rfl (by kernel_rfl) (by kernel_rfl) (by kernel_rfl) (fun _ _ _ h => h) (Or.inl ⟨by rfl, ?_⟩) (by assumption) ?_
        rotate_left
        · intro w hSw; (try dsimp only at hSw); (try go_split_ands); go_simp; (try (with_reducible rfl))
        (try simp only [Act.put, List.setIfInBounds_toArray, List.set_cons_zero, List.set_cons_succ])
        refine wpAnyR_done (by kernel_rfl) ?_ _
        go_wp2
        go_roundw
        case rel =>
          refine ⟨st, h, rfl, by go_num, hst, by omega, by omega, hF1, ?_, El.cast hE5 (by rw [HU.out.1, HV.out.1]), hk5⟩
          rw [show nn - h - m = d - m + 1 by omega, HV.out.2.2, HU.out.2.1]
          intro v hv u hu
          have h1 := all_ahead hcf (by rw [← HV.out.2.2]; exact pw_take hRs _) (Lt.of_neg (by rw [hz]; exact hz0) : Lt cf v0 u0) v hv
          exact all_behind hcf (by rw [← HU.out.2.1]; exact pw_drop hLs _) h1 u hu
        case measure => simp [intOf]; omega
      ·
        refine wpAnyR_take (i := 12) (oi := ⟨some 170, _, _, _, _, _⟩) (v := ?_) (by kernel_rfl) (by kernel_rfl) rfl (by kernel_rfl) (by kernel_rfl) (by kernel_rfl) (fun _ _ _ h => h) (Or.inl ⟨by rfl, ?_⟩) (by assumption) ?_
        rotate_left
        · intro w hSw; (try dsimp only at hSw); (try go_split_ands); go_simp; (try (with_reducible rfl))
        (try simp only [Act.put, List.setIfInBounds_toArray, List.set_cons_zero, List.set_cons_succ])
        refine wpAnyR_take (i := 13) (oi := ⟨some 171, _, _, _, _, _⟩) (v := ?_) (by kernel_rfl) (by kernel_rfl) rfl (by kernel_rfl) (by kernel_rfl) (by kernel_rfl) (fun _ _ _ h => h) (Or.inl ⟨by rfl, ?_⟩) (by assumption) ?_
        rotate_left
        · intro w hSw; (try dsimp only at hSw); (try go_split_ands); go_simp; (try (with_reducible rfl))
        (try simp only [Act.put, List.setIfInBounds_toArray, List.set_cons_zero, List.set_cons_succ])
        refine wpAnyR_done (by kernel_rfl) ?_ _
        go_wp2
        go_roundw
        case rel =>
          refine ⟨h + 1, r, by go_num, rfl, by omega, by omega, hrh, ?_, hF2, El.cast hE5 (by rw [HU.out.1, HV.out.1]), hk5⟩
          rw [show h + 1 - a = h - a + 1 by omega, show nn - (h + 1) - m = d - m by omega, HU.out.2.2, HV.out.2.1]
          intro u hu v hv
          have h0 : Lt cf u0 v0 := Lt.of_not hcf (hLR u0 (by rw [HU.out.1]; simp) v0 (by rw [HV.out.1]; simp)) (by rw [hz]; exact hz0)
          have h1 := all_ahead hcf (by rw [← HU.out.2.2]; exact pw_take hLs _) h0 u hu
          exact all_behind hcf (by rw [← HV.out.2.1]; exact pw_drop hRs _) h1 v hv
        case measure => simp [intOf]; omega
    · obtain rfl : st = r := by omega
      have hlz : ¬ (st : Int) < (st : Int) := by omega
      clear hlt
      obtain ⟨en, hen⟩ : ∃ en : Nat, nn - st = en := ⟨_, rfl⟩
      have w1 : (nn : Int) - (st : Int) = (en : Int) := by omega
      have w2 : IntKind.i64.wrap (en : Int) = (en : Int) := wrapN (by omega)
      rw [hen] at hF1 hF2
      have hx1 := pw_cut hLs (st - a)
      have hx2 := pw_cut hRs (en - m)
      have hs1 := pw_take hLs (st - a)
      have hs2 := pw_drop hLs (st - a)
      have hs3 := pw_take hRs (en - m)
      have hs4 := pw_drop hRs (en - m)
      obtain ⟨L1, hL1⟩ : ∃ L1, L.take (st - a) = L1 := ⟨_, rfl⟩
      obtain ⟨L2, hL2'⟩ : ∃ L2, L.drop (st - a) = L2 := ⟨_, rfl⟩
      obtain ⟨R1, hR1⟩ : ∃ R1, R.take (en - m) = R1 := ⟨_, rfl⟩
      obtain ⟨R2, hR2'⟩ : ∃ R2, R.drop (en - m) = R2 := ⟨_, rfl⟩
      have hL12 : L = L1 ++ L2 := by rw [← hL1, ← hL2', List.take_append_drop]
      have hR12 : R = R1 ++ R2 := by rw [← hR1, ← hR2', List.take_append_drop]
      have lL1 : L1.length = st - a := by rw [← hL1, List.length_take]; omega
      have lL2 : L2.length = m - st := by rw [← hL2', List.length_drop]; omega
      have lR1 : R1.length = en - m := by rw [← hR1, List.length_take]; omega
      have lR2 : R2.length = b - en := by rw [← hR2', List.length_drop]; omega
      rw [hL1, hR2'] at hF1
      rw [hR1, hL2'] at hF2
      rw [hL1, hL2'] at hx1
      rw [hR1, hR2'] at hx2
      rw [hL1] at hs1
      rw [hL2'] at hs2
      rw [hR1] at hs3
      rw [hR2'] at hs4
      have hc1 : ∀ x ∈ L1, ∀ y ∈ R1, x < y := fun x hx y hy => hLR x (by rw [hL12]; simp [hx]) y (by rw [hR12]; simp [hy])
      have hc2 : ∀ x ∈ L2, ∀ y ∈ R2, x < y := fun x hx y hy => hLR x (by rw [hL12]; simp [hx]) y (by rw [hR12]; simp [hy])
      have hE1 := hEr.cast (ys := p ++ (L1 ++ L2) ++ (R1 ++ R2) ++ q) (by rw [← hL12, ← hR12])
      have finl : ∀ S1 S2 : List Nat, S1.Perm (L1 ++ R1) → S1.Pairwise (Lt cf) → S2.Perm (L2 ++ R2) → S2.Pairwise (Lt cf) → (S1 ++ S2).Perm (L ++ R) ∧ (S1 ++ S2).Pairwise (Lt cf) := by
        intro S1 S2 hP1 hS1 hP2 hS2
        refine ⟨?_, pw_append hS1 hS2 ?_⟩
        · rw [hL12, hR12]
          refine (hP1.append hP2).trans ?_
          rw [List.append_assoc, List.append_assoc]
          refine List.Perm.append_left L1 ?_
          rw [← List.append_assoc, ← List.append_assoc]
          exact List.Perm.append_right R2 List.perm_append_comm
        · intro x hx y hy
          have hx' := hP1.mem_iff.1 hx
          have hy' := hP2.mem_iff.1 hy
          rcases List.mem_append.1 hx' with hx' | hx' <;> rcases List.mem_append.1 hy' with hy' | hy'
          · exact hx1 x hx' y hy'
          · exact hF1 x hx' y hy'
          · exact hF2 x hx' y hy'
          · exact hx2 x hx' y hy'
      have FINL := Lib.hid finl
      clear finl hx1 hx2 hF1 hF2 hL1 hL2' hR1 hR2' hL12 hR12 hEr hLs hRs hLR hx
      by_cases v1 : st < m
      · by_cases v2 : m < en
        · have z1 : (st : Int) < (m : Int) := by omega
          have z2 : (m : Int) < (en : Int) := by omega
          go_wp2_with fail
          refine (rot_any n c st m en g _ enc rest (p ++ L1) L2 R1 (R2 ++ q) wr (hE1.cast (by simp)) (by rw [List.length_append]; omega) (by omega) (by omega) (by omega) (by omega) (by simp only [List.length_append]; omega) hn2 hform ⟨gc, lb, rfl⟩).mono ?_
          rintro e WA ⟨rfl, hk7, hEA0⟩
          have hEA := hEA0.cast (ys := p ++ (L1 ++ R1) ++ (L2 ++ R2 ++ q)) (by simp)
          have hkA := hkr.trans hk7 (fun _ _ h => h.elim id id)
          by_cases x1 : a < st
          · by_cases x2 : st < M
            · have z1 : (a : Int) < (st : Int) := by omega
              have z2 : (st : Int) < (M : Int) := by omega
              go_wp2_with fail
              refine (IH a st M p L1 R1 (L2 ++ R2 ++ q) WA (by omega) (hEA.cast (by simp)) hp (by omega) (by omega) (by simp only [List.length_append]; omega) (by omega) (by omega) hs1 hs3 hc1 (hk.trans hkA (fun _ _ h => h.elim id id))).mono ?_
              rintro e WB ⟨rfl, S1, hP1, hS1, hk8, hEB⟩
              have hkB := hkA.trans hk8 (fun _ _ h => h.elim id id)
              have hS1l : S1.length = M - a := by rw [hP1.length_eq, List.length_append]; omega
              by_cases y1 : M < en
              · by_cases y2 : en < b
                · have z1 : (M : Int) < (en : Int) := by omega
                  have z2 : (en : Int) < (b : Int) := by omega
                  go_wp2_with fail
                  refine (IH M en b (p ++ S1) L2 R2 q WB (by omega) (hEB.cast (by simp)) (by rw [List.length_append, hS1l]; omega) (by omega) (by omega) hq (by omega) (by omega) hs2 hs4 hc2 (hk.trans hkB (fun _ _ h => h.elim id id))).mono ?_
                  rintro e WC ⟨rfl, S2, hP2, hS2, hk9, hEC⟩
                  have hkC := hkB.trans hk9 (fun _ _ h => h.elim id id)
                  go_wp2
                  go_end0
                  exact ⟨rfl, S1 ++ S2, (FINL.out _ _ hP1 hS1 hP2 hS2).1, (FINL.out _ _ hP1 hS1 hP2 hS2).2, hkC, hEC.cast (by simp)⟩
                · have z1 : (M : Int) < (en : Int) := by omega
                  have z2 : ¬ (en : Int) < (b : Int) := by omega
                  go_wp2
                  go_end0
                  exact ⟨rfl, S1 ++ (L2 ++ R2), (FINL.out _ _ hP1 hS1 (List.Perm.refl _) (by rw [List.eq_nil_of_length_eq_zero (l := R2) (by omega), List.append_nil]; exact hs2)).1, (FINL.out _ _ hP1 hS1 (List.Perm.refl _) (by rw [List.eq_nil_of_length_eq_zero (l := R2) (by omega), List.append_nil]; exact hs2)).2, hkB, hEB.cast (by simp)⟩
              · have z1 : ¬ (M : Int) < (en : Int) := by omega
                go_wp2
                go_end0
                exact ⟨rfl, S1 ++ (L2 ++ R2), (FINL.out _ _ hP1 hS1 (List.Perm.refl _) (by rw [List.eq_nil_of_length_eq_zero (l := L2) (by omega), List.nil_append]; exact hs4)).1, (FINL.out _ _ hP1 hS1 (List.Perm.refl _) (by rw [List.eq_nil_of_length_eq_zero (l := L2) (by omega), List.nil_append]; exact hs4)).2, hkB, hEB.cast (by simp)⟩
            · have z1 : (a : Int) < (st : Int) := by omega
              have z2 : ¬ (st : Int) < (M : Int) := by omega
              obtain ⟨S1, hP1, hS1, hEB⟩ : ∃ S1, S1.Perm (L1 ++ R1) ∧ S1.Pairwise (Lt cf) ∧ El enc rest g (p ++ S1 ++ (L2 ++ R2 ++ q)) WA := ⟨L1 ++ R1, List.Perm.refl _, by rw [List.eq_nil_of_length_eq_zero (l := R1) (by omega), List.append_nil]; exact hs1, hEA.cast (by simp)⟩
              obtain ⟨WB, hWB⟩ : ∃ WB, WA = WB := ⟨_, rfl⟩
              have hkB := hkA
              subst hWB
              have hS1l : S1.length = M - a := by rw [hP1.length_eq, List.length_append]; omega
              by_cases y1 : M < en
              · by_cases y2 : en < b
                · have z1 : (M : Int) < (en : Int) := by omega
                  have z2 : (en : Int) < (b : Int) := by omega
                  go_wp2_with fail
                  refine (IH M en b (p ++ S1) L2 R2 q WA (by omega) (hEB.cast (by simp)) (by rw [List.length_append, hS1l]; omega) (by omega) (by omega) hq (by omega) (by omega) hs2 hs4 hc2 (hk.trans hkB (fun _ _ h => h.elim id id))).mono ?_
                  rintro e WC ⟨rfl, S2, hP2, hS2, hk9, hEC⟩
                  have hkC := hkB.trans hk9 (fun _ _ h => h.elim id id)
                  go_wp2
                  go_end0
                  exact ⟨rfl, S1 ++ S2, (FINL.out _ _ hP1 hS1 hP2 hS2).1, (FINL.out _ _ hP1 hS1 hP2 hS2).2, hkC, hEC.cast (by simp)⟩
                · have z1 : (M : Int) < (en : Int) := by omega
                  have z2 : ¬ (en : Int) < (b : Int) := by omega
                  go_wp2
                  go_end0
                  exact ⟨rfl, S1 ++ (L2 ++ R2), (FINL.out _ _ hP1 hS1 (List.Perm.refl _) (by rw [List.eq_nil_of_length_eq_zero (l := R2) (by omega), List.append_nil]; exact hs2)).1, (FINL.out _ _ hP1 hS1 (List.Perm.refl _) (by rw [List.eq_nil_of_length_eq_zero (l := R2) (by omega), List.append_nil]; exact hs2)).2, hkB, hEB.cast (by simp)⟩
              · have z1 : ¬ (M : Int) < (en : Int) := by omega
                go_wp2
                go_end0
                exact ⟨rfl, S1 ++ (L2 ++ R2), (FINL.out _ _ hP1 hS1 (List.Perm.refl _) (by rw [List.eq_nil_of_length_eq_zero (l := L2) (by omega), List.nil_append]; exact hs4)).1, (FINL.out _ _ hP1 hS1 (List.Perm.refl _) (by rw [List.eq_nil_of_length_eq_zero (l := L2) (by omega), List.nil_append]; exact hs4)).2, hkB, hEB.cast (by simp)⟩
          · have z1 : ¬ (a : Int) < (st : Int) := by omega
            obtain ⟨S1, hP1, hS1, hEB⟩ : ∃ S1, S1.Perm (L1 ++ R1) ∧ S1.Pairwise (Lt cf) ∧ El enc rest g (p ++ S1 ++ (L2 ++ R2 ++ q)) WA := ⟨L1 ++ R1, List.Perm.refl _, by rw [List.eq_nil_of_length_eq_zero (l := L1) (by omega), List.nil_append]; exact hs3, hEA.cast (by simp)⟩
            obtain ⟨WB, hWB⟩ : ∃ WB, WA = WB := ⟨_, rfl⟩
            have hkB := hkA
            subst hWB
            have hS1l : S1.length = M - a := by rw [hP1.length_eq, List.length_append]; omega
            by_cases y1 : M < en
            · by_cases y2 : en < b
              · have z1 : (M : Int) < (en : Int) := by omega
                have z2 : (en : Int) < (b : Int) := by omega
                go_wp2_with fail
                refine (IH M en b (p ++ S1) L2 R2 q WA (by omega) (hEB.cast (by simp)) (by rw [List.length_append, hS1l]; omega) (by omega) (by omega) hq (by omega) (by omega) hs2 hs4 hc2 (hk.trans hkB (fun _ _ h => h.elim id id))).mono ?_
                rintro e WC ⟨rfl, S2, hP2, hS2, hk9, hEC⟩
                have hkC := hkB.trans hk9 (fun _ _ h => h.elim id id)
                go_wp2
                go_end0
                exact ⟨rfl, S1 ++ S2, (FINL.out _ _ hP1 hS1 hP2 hS2).1, (FINL.out _ _ hP1 hS1 hP2 hS2).2, hkC, hEC.cast (by simp)⟩
              · have z1 : (M : Int) < (en : Int) := by omega
                have z2 : ¬ (en : Int) < (b : Int) := by omega
                go_wp2
                go_end0
                exact ⟨rfl, S1 ++ (L2 ++ R2), (FINL.out _ _ hP1 hS1 (List.Perm.refl _) (by rw [List.eq_nil_of_length_eq_zero (l := R2) (by omega), List.append_nil]; exact hs2)).1, (FINL.out _ _ hP1 hS1 (List.Perm.refl _) (by rw [List.eq_nil_of_length_eq_zero (l := R2) (by omega), List.append_nil]; exact hs2)).2, hkB, hEB.cast (by simp)⟩
            · have z1 : ¬ (M : Int) < (en : Int) := by omega
              go_wp2
              go_end0
              exact ⟨rfl, S1 ++ (L2 ++ R2), (FINL.out _ _ hP1 hS1 (List.Perm.refl _) (by rw [List.eq_nil_of_length_eq_zero (l := L2) (by omega), List.nil_append]; exact hs4)).1, (FINL.out _ _ hP1 hS1 (List.Perm.refl _) (by rw [List.eq_nil_of_length_eq_zero (l := L2) (by omega), List.nil_append]; exact hs4)).2, hkB, hEB.cast (by simp)⟩
        · have z1 : (st : Int) < (m : Int) := by omega
          have z2 : ¬ (m : Int) < (en : Int) := by omega
          have hEA := hE1.cast (ys := p ++ (L1 ++ R1) ++ (L2 ++ R2 ++ q)) (by rw [List.eq_nil_of_length_eq_zero (l := R1) (by omega)]; simp)
          have hkA := hkr
          by_cases x1 : a < st
          · by_cases x2 : st < M
            · have z1 : (a : Int) < (st : Int) := by omega
              have z2 : (st : Int) < (M : Int) := by omega
              go_wp2_with fail
              refine (IH a st M p L1 R1 (L2 ++ R2 ++ q) wr (by omega) (hEA.cast (by simp)) hp (by omega) (by omega) (by simp only [List.length_append]; omega) (by omega) (by omega) hs1 hs3 hc1 (hk.trans hkA (fun _ _ h => h.elim id id))).mono ?_
              rintro e WB ⟨rfl, S1, hP1, hS1, hk8, hEB⟩
              have hkB := hkA.trans hk8 (fun _ _ h => h.elim id id)
              have hS1l : S1.length = M - a := by rw [hP1.length_eq, List.length_append]; omega
              by_cases y1 : M < en
              · by_cases y2 : en < b
                · have z1 : (M : Int) < (en : Int) := by omega
                  have z2 : (en : Int) < (b : Int) := by omega
                  go_wp2_with fail
                  refine (IH M en b (p ++ S1) L2 R2 q WB (by omega) (hEB.cast (by simp)) (by rw [List.length_append, hS1l]; omega) (by omega) (by omega) hq (by omega) (by omega) hs2 hs4 hc2 (hk.trans hkB (fun _ _ h => h.elim id id))).mono ?_
                  rintro e WC ⟨rfl, S2, hP2, hS2, hk9, hEC⟩
                  have hkC := hkB.trans hk9 (fun _ _ h => h.elim id id)
                  go_wp2
                  go_end0
                  exact ⟨rfl, S1 ++ S2, (FINL.out _ _ hP1 hS1 hP2 hS2).1, (FINL.out _ _ hP1 hS1 hP2 hS2).2, hkC, hEC.cast (by simp)⟩
                · have z1 : (M : Int) < (en : Int) := by omega
                  have z2 : ¬ (en : Int) < (b : Int) := by omega
                  go_wp2
                  go_end0
                  exact ⟨rfl, S1 ++ (L2 ++ R2), (FINL.out _ _ hP1 hS1 (List.Perm.refl _) (by rw [List.eq_nil_of_length_eq_zero (l := R2) (by omega), List.append_nil]; exact hs2)).1, (FINL.out _ _ hP1 hS1 (List.Perm.refl _) (by rw [List.eq_nil_of_length_eq_zero (l := R2) (by omega), List.append_nil]; exact hs2)).2, hkB, hEB.cast (by simp)⟩
              · have z1 : ¬ (M : Int) < (en : Int) := by omega
                go_wp2
                go_end0
                exact ⟨rfl, S1 ++ (L2 ++ R2), (FINL.out _ _ hP1 hS1 (List.Perm.refl _) (by rw [List.eq_nil_of_length_eq_zero (l := L2) (by omega), List.nil_append]; exact hs4)).1, (FINL.out _ _ hP1 hS1 (List.Perm.refl _) (by rw [List.eq_nil_of_length_eq_zero (l := L2) (by omega), List.nil_append]; exact hs4)).2, hkB, hEB.cast (by simp)⟩
            · have z1 : (a : Int) < (st : Int) := by omega
              have z2 : ¬ (st : Int) < (M : Int) := by omega
              obtain ⟨S1, hP1, hS1, hEB⟩ : ∃ S1, S1.Perm (L1 ++ R1) ∧ S1.Pairwise (Lt cf) ∧ El enc rest g (p ++ S1 ++ (L2 ++ R2 ++ q)) wr := ⟨L1 ++ R1, List.Perm.refl _, by rw [List.eq_nil_of_length_eq_zero (l := R1) (by omega), List.append_nil]; exact hs1, hEA.cast (by simp)⟩
              obtain ⟨WB, hWB⟩ : ∃ WB, wr = WB := ⟨_, rfl⟩
              have hkB := hkA
              subst hWB
              have hS1l : S1.length = M - a := by rw [hP1.length_eq, List.length_append]; omega
              by_cases y1 : M < en
              · by_cases y2 : en < b
                · have z1 : (M : Int) < (en : Int) := by omega
                  have z2 : (en : Int) < (b : Int) := by omega
                  go_wp2_with fail
                  refine (IH M en b (p ++ S1) L2 R2 q wr (by omega) (hEB.cast (by simp)) (by rw [List.length_append, hS1l]; omega) (by omega) (by omega) hq (by omega) (by omega) hs2 hs4 hc2 (hk.trans hkB (fun _ _ h => h.elim id id))).mono ?_
                  rintro e WC ⟨rfl, S2, hP2, hS2, hk9, hEC⟩
                  have hkC := hkB.trans hk9 (fun _ _ h => h.elim id id)
                  go_wp2
                  go_end0
                  exact ⟨rfl, S1 ++ S2, (FINL.out _ _ hP1 hS1 hP2 hS2).1, (FINL.out _ _ hP1 hS1 hP2 hS2).2, hkC, hEC.cast (by simp)⟩
                · have z1 : (M : Int) < (en : Int) := by omega
                  have z2 : ¬ (en : Int) < (b : Int) := by omega
                  go_wp2
                  go_end0
                  exact ⟨rfl, S1 ++ (L2 ++ R2), (FINL.out _ _ hP1 hS1 (List.Perm.refl _) (by rw [List.eq_nil_of_length_eq_zero (l := R2) (by omega), List.append_nil]; exact hs2)).1, (FINL.out _ _ hP1 hS1 (List.Perm.refl _) (by rw [List.eq_nil_of_length_eq_zero (l := R2) (by omega), List.append_nil]; exact hs2)).2, hkB, hEB.cast (by simp)⟩
              · have z1 : ¬ (M : Int) < (en : Int) := by omega
                go_wp2
                go_end0
                exact ⟨rfl, S1 ++ (L2 ++ R2), (FINL.out _ _ hP1 hS1 (List.Perm.refl _) (by rw [List.eq_nil_of_length_eq_zero (l := L2) (by omega), List.nil_append]; exact hs4)).1, (FINL.out _ _ hP1 hS1 (List.Perm.refl _) (by rw [List.eq_nil_of_length_eq_zero (l := L2) (by omega), List.nil_append]; exact hs4)).2, hkB, hEB.cast (by simp)⟩
          · have z1 : ¬ (a : Int) < (st : Int) := by omega
            obtain ⟨S1, hP1, hS1, hEB⟩ : ∃ S1, S1.Perm (L1 ++ R1) ∧ S1.Pairwise (Lt cf) ∧ El enc rest g (p ++ S1 ++ (L2 ++ R2 ++ q)) wr := ⟨L1 ++ R1, List.Perm.refl _, by rw [List.eq_nil_of_length_eq_zero (l := L1) (by omega), List.nil_append]; exact hs3, hEA.cast (by simp)⟩
            obtain ⟨WB, hWB⟩ : ∃ WB, wr = WB := ⟨_, rfl⟩
            have hkB := hkA
            subst hWB
            have hS1l : S1.length = M - a := by rw [hP1.length_eq, List.length_append]; omega
            by_cases y1 : M < en
            · by_cases y2 : en < b
              · have z1 : (M : Int) < (en : Int) := by omega
                have z2 : (en : Int) < (b : Int) := by omega
                go_wp2_with fail
                refine (IH M en b (p ++ S1) L2 R2 q wr (by omega) (hEB.cast (by simp)) (by rw [List.length_append, hS1l]; omega) (by omega) (by omega) hq (by omega) (by omega) hs2 hs4 hc2 (hk.trans hkB (fun _ _ h => h.elim id id))).mono ?_
                rintro e WC ⟨rfl, S2, hP2, hS2, hk9, hEC⟩
                have hkC := hkB.trans hk9 (fun _ _ h => h.elim id id)
                go_wp2
                go_end0
                exact ⟨rfl, S1 ++ S2, (FINL.out _ _ hP1 hS1 hP2 hS2).1, (FINL.out _ _ hP1 hS1 hP2 hS2).2, hkC, hEC.cast (by simp)⟩
              · have z1 : (M : Int) < (en : Int) := by omega
                have z2 : ¬ (en : Int) < (b : Int) := by omega
                go_wp2
                go_end0
                exact ⟨rfl, S1 ++ (L2 ++ R2), (FINL.out _ _ hP1 hS1 (List.Perm.refl _) (by rw [List.eq_nil_of_length_eq_zero (l := R2) (by omega), List.append_nil]; exact hs2)).1, (FINL.out _ _ hP1 hS1 (List.Perm.refl _) (by rw [List.eq_nil_of_length_eq_zero (l := R2) (by omega), List.append_nil]; exact hs2)).2, hkB, hEB.cast (by simp)⟩
            · have z1 : ¬ (M : Int) < (en : Int) := by omega
              go_wp2
              go_end0
              exact ⟨rfl, S1 ++ (L2 ++ R2), (FINL.out _ _ hP1 hS1 (List.Perm.refl _) (by rw [List.eq_nil_of_length_eq_zero (l := L2) (by omega), List.nil_append]; exact hs4)).1, (FINL.out _ _ hP1 hS1 (List.Perm.refl _) (by rw [List.eq_nil_of_length_eq_zero (l := L2) (by omega), List.nil_append]; exact hs4)).2, hkB, hEB.cast (by simp)⟩
      · have z1 : ¬ (st : Int) < (m : Int) := by omega
        have hEA := hE1.cast (ys := p ++ (L1 ++ R1) ++ (L2 ++ R2 ++ q)) (by rw [List.eq_nil_of_length_eq_zero (l := L2) (by omega)]; simp)
        have hkA := hkr
        by_cases x1 : a < st
        · by_cases x2 : st < M
          · have z1 : (a : Int) < (st : Int) := by omega
            have z2 : (st : Int) < (M : Int) := by omega
            go_wp2_with fail
            refine (IH a st M p L1 R1 (L2 ++ R2 ++ q) wr (by omega) (hEA.cast (by simp)) hp (by omega) (by omega) (by simp only [List.length_append]; omega) (by omega) (by omega) hs1 hs3 hc1 (hk.trans hkA (fun _ _ h => h.elim id id))).mono ?_
            rintro e WB ⟨rfl, S1, hP1, hS1, hk8, hEB⟩
            have hkB := hkA.trans hk8 (fun _ _ h => h.elim id id)
            have hS1l : S1.length = M - a := by rw [hP1.length_eq, List.length_append]; omega
            by_cases y1 : M < en
            · by_cases y2 : en < b
              · have z1 : (M : Int) < (en : Int) := by omega
                have z2 : (en : Int) < (b : Int) := by omega
                go_wp2_with fail
                refine (IH M en b (p ++ S1) L2 R2 q WB (by omega) (hEB.cast (by simp)) (by rw [List.length_append, hS1l]; omega) (by omega) (by omega) hq (by omega) (by omega) hs2 hs4 hc2 (hk.trans hkB (fun _ _ h => h.elim id id))).mono ?_
                rintro e WC ⟨rfl, S2, hP2, hS2, hk9, hEC⟩
                have hkC := hkB.trans hk9 (fun _ _ h => h.elim id id)
                go_wp2
                go_end0
                exact ⟨rfl, S1 ++ S2, (FINL.out _ _ hP1 hS1 hP2 hS2).1, (FINL.out _ _ hP1 hS1 hP2 hS2).2, hkC, hEC.cast (by simp)⟩
              · have z1 : (M : Int) < (en : Int) := by omega
                have z2 : ¬ (en : Int) < (b : Int) := by omega
                go_wp2
                go_end0
                exact ⟨rfl, S1 ++ (L2 ++ R2), (FINL.out _ _ hP1 hS1 (List.Perm.refl _) (by rw [List.eq_nil_of_length_eq_zero (l := R2) (by omega), List.append_nil]; exact hs2)).1, (FINL.out _ _ hP1 hS1 (List.Perm.refl _) (by rw [List.eq_nil_of_length_eq_zero (l := R2) (by omega), List.append_nil]; exact hs2)).2, hkB, hEB.cast (by simp)⟩
            · have z1 : ¬ (M : Int) < (en : Int) := by omega
              go_wp2
              go_end0
              exact ⟨rfl, S1 ++ (L2 ++ R2), (FINL.out _ _ hP1 hS1 (List.Perm.refl _) (by rw [List.eq_nil_of_length_eq_zero (l := L2) (by omega), List.nil_append]; exact hs4)).1, (FINL.out _ _ hP1 hS1 (List.Perm.refl _) (by rw [List.eq_nil_of_length_eq_zero (l := L2) (by omega), List.nil_append]; exact hs4)).2, hkB, hEB.cast (by simp)⟩
          · have z1 : (a : Int) < (st : Int) := by omega
            have z2 : ¬ (st : Int) < (M : Int) := by omega
            obtain ⟨S1, hP1, hS1, hEB⟩ : ∃ S1, S1.Perm (L1 ++ R1) ∧ S1.Pairwise (Lt cf) ∧ El enc rest g (p ++ S1 ++ (L2 ++ R2 ++ q)) wr := ⟨L1 ++ R1, List.Perm.refl _, by rw [List.eq_nil_of_length_eq_zero (l := R1) (by omega), List.append_nil]; exact hs1, hEA.cast (by simp)⟩
            obtain ⟨WB, hWB⟩ : ∃ WB, wr = WB := ⟨_, rfl⟩
            have hkB := hkA
            subst hWB
            have hS1l : S1.length = M - a := by rw [hP1.length_eq, List.length_append]; omega
            by_cases y1 : M < en
            · by_cases y2 : en < b
              · have z1 : (M : Int) < (en : Int) := by omega
                have z2 : (en : Int) < (b : Int) := by omega
                go_wp2_with fail
                refine (IH M en b (p ++ S1) L2 R2 q wr (by omega) (hEB.cast (by simp)) (by rw [List.length_append, hS1l]; omega) (by omega) (by omega) hq (by omega) (by omega) hs2 hs4 hc2 (hk.trans hkB (fun _ _ h => h.elim id id))).mono ?_
                rintro e WC ⟨rfl, S2, hP2, hS2, hk9, hEC⟩
                have hkC := hkB.trans hk9 (fun _ _ h => h.elim id id)
                go_wp2
                go_end0
                exact ⟨rfl, S1 ++ S2, (FINL.out _ _ hP1 hS1 hP2 hS2).1, (FINL.out _ _ hP1 hS1 hP2 hS2).2, hkC, hEC.cast (by simp)⟩
              · have z1 : (M : Int) < (en : Int) := by omega
                have z2 : ¬ (en : Int) < (b : Int) := by omega
                go_wp2
                go_end0
                exact ⟨rfl, S1 ++ (L2 ++ R2), (FINL.out _ _ hP1 hS1 (List.Perm.refl _) (by rw [List.eq_nil_of_length_eq_zero (l := R2) (by omega), List.append_nil]; exact hs2)).1, (FINL.out _ _ hP1 hS1 (List.Perm.refl _) (by rw [List.eq_nil_of_length_eq_zero (l := R2) (by omega), List.append_nil]; exact hs2)).2, hkB, hEB.cast (by simp)⟩
            · have z1 : ¬ (M : Int) < (en : Int) := by omega
              go_wp2
              go_end0
              exact ⟨rfl, S1 ++ (L2 ++ R2), (FINL.out _ _ hP1 hS1 (List.Perm.refl _) (by rw [List.eq_nil_of_length_eq_zero (l := L2) (by omega), List.nil_append]; exact hs4)).1, (FINL.out _ _ hP1 hS1 (List.Perm.refl _) (by rw [List.eq_nil_of_length_eq_zero (l := L2) (by omega), List.nil_append]; exact hs4)).2, hkB, hEB.cast (by simp)⟩
        · have z1 : ¬ (a : Int) < (st : Int) := by omega
          obtain ⟨S1, hP1, hS1, hEB⟩ : ∃ S1, S1.Perm (L1 ++ R1) ∧ S1.Pairwise (Lt cf) ∧ El enc rest g (p ++ S1 ++ (L2 ++ R2 ++ q)) wr := ⟨L1 ++ R1, List.Perm.refl _, by rw [List.eq_nil_of_length_eq_zero (l := L1) (by omega), List.nil_append]; exact hs3, hEA.cast (by simp)⟩
          obtain ⟨WB, hWB⟩ : ∃ WB, wr = WB := ⟨_, rfl⟩
          have hkB := hkA
          subst hWB
          have hS1l : S1.length = M - a := by rw [hP1.length_eq, List.length_append]; omega
          by_cases y1 : M < en
          · by_cases y2 : en < b
            · have z1 : (M : Int) < (en : Int) := by omega
              have z2 : (en : Int) < (b : Int) := by omega
              go_wp2_with fail
              refine (IH M en b (p ++ S1) L2 R2 q wr (by omega) (hEB.cast (by simp)) (by rw [List.length_append, hS1l]; omega) (by omega) (by omega) hq (by omega) (by omega) hs2 hs4 hc2 (hk.trans hkB (fun _ _ h => h.elim id id))).mono ?_
              rintro e WC ⟨rfl, S2, hP2, hS2, hk9, hEC⟩
              have hkC := hkB.trans hk9 (fun _ _ h => h.elim id id)
              go_wp2
              go_end0
              exact ⟨rfl, S1 ++ S2, (FINL.out _ _ hP1 hS1 hP2 hS2).1, (FINL.out _ _ hP1 hS1 hP2 hS2).2, hkC, hEC.cast (by simp)⟩
            · have z1 : (M : Int) < (en : Int) := by omega
              have z2 : ¬ (en : Int) < (b : Int) := by omega
              go_wp2
              go_end0
              exact ⟨rfl, S1 ++ (L2 ++ R2), (FINL.out _ _ hP1 hS1 (List.Perm.refl _) (by rw [List.eq_nil_of_length_eq_zero (l := R2) (by omega), List.append_nil]; exact hs2)).1, (FINL.out _ _ hP1 hS1 (List.Perm.refl _) (by rw [List.eq_nil_of_length_eq_zero (l := R2) (by omega), List.append_nil]; exact hs2)).2, hkB, hEB.cast (by simp)⟩
          · have z1 : ¬ (M : Int) < (en : Int) := by omega
            go_wp2
            go_end0
            exact ⟨rfl, S1 ++ (L2 ++ R2), (FINL.out _ _ hP1 hS1 (List.Perm.refl _) (by rw [List.eq_nil_of_length_eq_zero (l := L2) (by omega), List.nil_append]; exact hs4)).1, (FINL.out _ _ hP1 hS1 (List.Perm.refl _) (by rw [List.eq_nil_of_length_eq_zero (l := L2) (by omega), List.nil_append]; exact hs4)).2, hkB, hEB.cast (by simp)⟩
theorem sym_any (g n c : Nat) (cf : Nat → Nat → Int) (gc : Nat) (lb : Array Value) (hcf : CmpOk cf) (enc : Nat → Value) (rest : List Value) (w0 : World) (hn2 : n ≤ 5864062014805)
    (hcmp : CmpAt cf enc gc lb g w0) (eg : ∀ args w, (callFunc gc args).run Tryd.prog w = .ok (.enter gc args) w) (hform : ∀ x, ∃ A m k, enc x = .slice A m k) : ∀ N, SymAt g n c cf gc lb enc rest w0 N := by
  intro N
  induction N with
  | zero => intro a m b p L R q W hN hx hp hL hR hq hL0; omega
  | succ N ih =>
    intro a m b p L R q W hN hx hp hL hR hq hL0 hR0 hLs hRs hLR hk
    by_cases h1 : L.length = 1
    · obtain ⟨x, rfl⟩ : ∃ x, L = [x] := List.length_eq_one_iff.1 h1
      exact sym_one g n c cf gc lb hcf enc rest w0 hn2 hcmp eg hform a m b p R q x W hx hp (by simpa using hL) hR hq hRs (fun y hy => hLR x (by simp) y hy) hk
    · by_cases h2 : R.length = 1
      · obtain ⟨x, rfl⟩ : ∃ x, R = [x] := List.length_eq_one_iff.1 h2
        exact sym_last g n c cf gc lb hcf enc rest w0 hn2 hcmp eg hform a m b p L q x W hx hp hL (by simpa using hR) hq (by omega) hLs (fun y hy => hLR y hy x (by simp)) hk
      · by_cases hside : (a + b) / 2 < m
        · exact sym_gt g n c cf gc lb hcf enc rest w0 hn2 hcmp eg hform N ih a m b p L R q W hN hx hp hL hR hq (by omega) (by omega) hLs hRs hLR hk hside
        · exact sym_le g n c cf gc lb hcf enc rest w0 hn2 hcmp eg hform N ih a m b p L R q W hN hx hp hL hR hq (by omega) (by omega) hLs hRs hLR hk hside
end Go.Proofs.YtihdlalbgdighaaDoor.QV
/- slices.SortStableFunc over rows, walked: blocks, and merges of blocks. -/
namespace Go.Proofs.YtihdlalbgdighaaDoor.QV
open Go.RowKit Go.Proofs.YtihdlalbgdighaaDoorW.PrintWords Go.Proofs.YtihdlalbgdighaaDoor.SeqW Go.Shelf Go.Proofs.YtihdlalbgdighaaDoor.Op Go.Proofs.YtihdlalbgdighaaDoor.Stab
set_option linter.unusedVariables false
set_option linter.unusedSimpArgs false

/-- Blocks of bs elements each, sorted, and a last one of fewer. -/
structure Runs (cf : Nat → Nat → Int) (xs : List Nat) (bs : Nat) (Bs : List (List Nat)) (T : List Nat) : Prop where
  each : ∀ B ∈ Bs, B.length = bs ∧ B.Pairwise (Lt cf)
  tags : Bs.Pairwise (fun A B => ∀ x ∈ A, ∀ y ∈ B, x < y)
  tag : ∀ x ∈ Bs.flatten, ∀ y ∈ T, x < y
  last : T.Pairwise (Lt cf)
  len : T.length < bs
  perm : (Bs.flatten ++ T).Perm xs
theorem flat_len {bs : Nat} : ∀ {Bs : List (List Nat)}, (∀ B ∈ Bs, B.length = bs) → Bs.flatten.length = bs * Bs.length
  | [], _ => by simp
  | B :: Bs, h => by
    rw [List.flatten_cons, List.length_append, flat_len (fun C hC => h C (by simp [hC])), h B (by simp), List.length_cons, Nat.mul_succ]; omega
/-- While the blocks are merged two by two: those that are merged, those that are not yet. -/
structure Mid (cf : Nat → Nat → Int) (xs : List Nat) (bs : Nat) (D Bs : List (List Nat)) (T : List Nat) : Prop where
  eachD : ∀ B ∈ D, B.length = 2 * bs ∧ B.Pairwise (Lt cf)
  each : ∀ B ∈ Bs, B.length = bs ∧ B.Pairwise (Lt cf)
  tags : (D ++ Bs).Pairwise (fun A B => ∀ x ∈ A, ∀ y ∈ B, x < y)
  tag : ∀ x ∈ (D ++ Bs).flatten, ∀ y ∈ T, x < y
  last : T.Pairwise (Lt cf)
  len : T.length < bs
  perm : ((D ++ Bs).flatten ++ T).Perm xs
theorem Mid.start {cf : Nat → Nat → Int} {xs : List Nat} {bs : Nat} {Bs : List (List Nat)} {T : List Nat} (h : Runs cf xs bs Bs T) : Mid cf xs bs [] Bs T :=
  ⟨by simp, h.each, h.tags, h.tag, h.last, h.len, h.perm⟩
theorem Mid.lens {cf : Nat → Nat → Int} {xs : List Nat} {bs : Nat} {D Bs : List (List Nat)} {T : List Nat} (h : Mid cf xs bs D Bs T) : D.flatten.length = 2 * bs * D.length ∧ Bs.flatten.length = bs * Bs.length ∧ D.flatten.length + Bs.flatten.length + T.length = xs.length := by
  refine ⟨flat_len (fun B hB => (h.eachD B hB).1), flat_len (fun B hB => (h.each B hB).1), ?_⟩
  have := h.perm.length_eq
  rw [List.flatten_append, List.length_append, List.length_append] at this
  exact this
/-- Two blocks are merged. -/
theorem Mid.step {cf : Nat → Nat → Int} {xs : List Nat} {bs : Nat} {D Bs : List (List Nat)} {T B1 B2 S : List Nat} (h : Mid cf xs bs D (B1 :: B2 :: Bs) T) (hS : S.Perm (B1 ++ B2)) (hs : S.Pairwise (Lt cf)) : Mid cf xs bs (D ++ [S]) Bs T := by
  have hmem : ∀ x, x ∈ S ↔ x ∈ B1 ∨ x ∈ B2 := fun x => by rw [hS.mem_iff, List.mem_append]
  have hl : S.length = 2 * bs := by rw [hS.length_eq, List.length_append, (h.each B1 (by simp)).1, (h.each B2 (by simp)).1]; omega
  have hflat : ∀ x, x ∈ (D ++ [S] ++ Bs).flatten ↔ x ∈ (D ++ B1 :: B2 :: Bs).flatten := fun x => by
    simp only [List.flatten_append, List.mem_append, List.flatten_cons, List.flatten_nil, List.append_nil, hmem]
    constructor
    · rintro ((h | h | h) | h)
      · exact .inl h
      · exact .inr (.inl h)
      · exact .inr (.inr (.inl h))
      · exact .inr (.inr (.inr h))
    · rintro (h | h | h | h)
      · exact .inl (.inl h)
      · exact .inl (.inr (.inl h))
      · exact .inl (.inr (.inr h))
      · exact .inr h
  refine ⟨?_, fun B hB => h.each B (by simp [hB]), ?_, fun x hx => h.tag x ((hflat x).1 hx), h.last, h.len, ?_⟩
  · intro B hB
    rcases List.mem_append.1 hB with hB | hB
    · exact h.eachD B hB
    · rw [List.mem_singleton.1 hB]; exact ⟨hl, hs⟩
  · have ht := h.tags
    rw [List.pairwise_append] at ht
    obtain ⟨t1, t2, t3⟩ := ht
    rw [List.pairwise_cons] at t2
    obtain ⟨t4, t5⟩ := t2
    rw [List.pairwise_cons] at t5
    obtain ⟨t6, t7⟩ := t5
    rw [List.append_assoc, List.pairwise_append]
    refine ⟨t1, ?_, ?_⟩
    · rw [List.singleton_append, List.pairwise_cons]
      refine ⟨fun B hB x hx y hy => ?_, t7⟩
      rcases (hmem x).1 hx with hx | hx
      · exact t4 B (by simp [hB]) x hx y hy
      · exact t6 B hB x hx y hy
    · intro A hA B hB x hx y hy
      rw [List.singleton_append] at hB
      rcases List.mem_cons.1 hB with hB | hB
      · rw [hB] at hy
        rcases (hmem y).1 hy with hy | hy
        · exact t3 A hA B1 (by simp) x hx y hy
        · exact t3 A hA B2 (by simp) x hx y hy
      · exact t3 A hA B (by simp [hB]) x hx y hy
  · refine List.Perm.trans ?_ h.perm
    refine List.Perm.append_right T ?_
    simp only [List.flatten_append, List.flatten_cons, List.flatten_nil, List.append_nil]
    rw [List.append_assoc]
    refine List.Perm.append_left _ ?_
    rw [← List.append_assoc]
    exact List.Perm.append_right _ hS
/-- The end of a pass. -/
theorem Mid.ends {cf : Nat → Nat → Int} {xs : List Nat} {bs : Nat} {D Bs : List (List Nat)} {T S : List Nat} (h : Mid cf xs bs D Bs T) (hS : S.Perm (Bs.flatten ++ T)) (hs : S.Pairwise (Lt cf)) (hl : S.length < 2 * bs) : Runs cf xs (2 * bs) D S := by
  refine ⟨h.eachD, (List.pairwise_append.1 h.tags).1, fun x hx y hy => ?_, hs, hl, ?_⟩
  · rcases List.mem_append.1 (hS.mem_iff.1 hy) with hy | hy
    · obtain ⟨A, hA, hxA⟩ := List.mem_flatten.1 hx
      obtain ⟨B, hB, hyB⟩ := List.mem_flatten.1 hy
      exact (List.pairwise_append.1 h.tags).2.2 A hA B hB x hxA y hyB
    · exact h.tag x (by rw [List.flatten_append]; simp [hx]) y hy
  · refine List.Perm.trans ?_ h.perm
    rw [List.flatten_append, List.append_assoc]
    exact List.Perm.append_left _ hS
/-- The end of all. -/
theorem Runs.done {cf : Nat → Nat → Int} {xs : List Nat} {bs : Nat} {Bs : List (List Nat)} {T : List Nat} (h : Runs cf xs bs Bs T) (hb : xs.length ≤ bs) (h0 : 0 < bs) : (Bs.flatten ++ T).Pairwise (Lt cf) := by
  have hl := h.perm.length_eq
  rw [List.length_append, flat_len (fun B hB => (h.each B hB).1)] at hl
  match Bs, h, hl with
  | [], h, _ => simpa using h.last
  | [B], h, hl =>
    have : T = [] := List.eq_nil_of_length_eq_zero (by simp at hl; omega)
    subst this
    simpa using (h.each B (by simp)).2
  | A :: B :: Bs, h, hl =>
    exfalso
    rw [List.length_cons, List.length_cons, Nat.mul_succ, Nat.mul_succ] at hl
    omega
end Go.Proofs.YtihdlalbgdighaaDoor.QV
/- slices.stableCmpFunc, slices.SortStableFunc over rows, walked. -/
namespace Go.Proofs.YtihdlalbgdighaaDoor.QV
open Go.RowKit Go.Proofs.YtihdlalbgdighaaDoorW.PrintWords Go.Proofs.YtihdlalbgdighaaDoor.SeqW Go.Shelf Go.Proofs.YtihdlalbgdighaaDoor.Op Go.Proofs.YtihdlalbgdighaaDoor.Stab
set_option linter.unusedVariables false
set_option linter.unusedSimpArgs false

set_option maxRecDepth 100000 in
set_option maxHeartbeats 4000000 in
theorem stable_any (g n c : Nat) (cf : Nat → Nat → Int) (gc : Nat) (lb : Array Value) (hcf : CmpOk cf) (enc : Nat → Value) (rest : List Value) (hn2 : n ≤ 5864062014805)
    (eg : ∀ args w, (callFunc gc args).run Tryd.prog w = .ok (.enter gc args) w) (hform : ∀ x, ∃ A m k, enc x = .slice A m k)
    (xs : List Nat) (W : World) (hx : El enc rest g xs W) (hn : xs.length = n) (hasc : xs.Pairwise (· < ·)) (hcmp : CmpAt cf enc gc lb g W) :
    Calls Tryd.prog 88 #[.slice (some ⟨g, 0, none⟩) n c, .int .i64 n, .func (.func gc) #[] lb] W fun e W' => e = .returned (.tuple #[]) ∧
      ∃ S, S.Perm xs ∧ S.Pairwise (Lt cf) ∧ Seq.Kpt (fun i => i = g) W W' ∧ El enc rest g S W' := by
  have SYM : ∀ N, SymAt g n c cf gc lb enc rest W N := sym_any g n c cf gc lb hcf enc rest W hn2 hcmp eg hform
  go_enter Tryd.func88, Tryd.ntmps88
  go_wp2_with fail
  go_loopw [7, 8] (fun av bv wr => ∃ (a b : Nat) (Bs : List (List Nat)), av = .int .i64 (a : Int) ∧ bv = .int .i64 (b : Int) ∧ a + 20 = b ∧ a ≤ n ∧ Bs.flatten.length = a ∧ (∀ B ∈ Bs, B.length = 20 ∧ B.Pairwise (Lt cf)) ∧ Bs.Pairwise (fun A B => ∀ x ∈ A, ∀ y ∈ B, x < y) ∧ Bs.flatten.Perm (xs.take a) ∧ El enc rest g (Bs.flatten ++ xs.drop a) wr ∧ Seq.Kpt (fun i => i = g) W wr) (fun av _ _ => n - (intOf av).toNat)
  case atStart => exact ⟨0, 20, [], rfl, rfl, rfl, Nat.zero_le _, rfl, by simp, by simp, by simp, by simpa using hx, Seq.Kpt.refl _ _⟩
  case round =>
    obtain ⟨a, b, Bs, rfl, rfl, hab, han, hfl, hea, htg, hpm, hE, hk⟩ := hrel
    by_cases hlt : b ≤ n
    · have hlz : (b : Int) ≤ (n : Int) := by omega
      have hcut := pw_cut hasc a
      obtain ⟨s, hs⟩ : ∃ s, (xs.drop a).take 20 = s := ⟨_, rfl⟩
      have hsl : s.length = 20 := by rw [← hs, List.length_take, List.length_drop]; omega
      have hsd : xs.drop a = s ++ xs.drop b := by rw [← hs, ← hab, ← List.drop_drop, List.take_append_drop]
      have hst : xs.take b = xs.take a ++ s := by rw [← hs, ← hab, List.take_add]
      have hsa : s.Pairwise (· < ·) := by rw [← hs]; exact pw_take (pw_drop hasc a) 20
      have hE1 := hE.cast (ys := Bs.flatten ++ s ++ xs.drop b) (by rw [hsd]; simp)
      have hdl : (xs.drop b).length = n - b := by rw [List.length_drop, hn]
      obtain ⟨b2, hb2⟩ : ∃ b2 : Nat, b + 20 = b2 := ⟨_, rfl⟩
      have w1 : (b : Int) + 20 = (b2 : Int) := by omega
      have w2 : IntKind.i64.wrap (b2 : Int) = (b2 : Int) := wrapN (by omega)
      go_wp2_with fail
      refine (ins_any n c a b g cf gc lb hcf enc rest Bs.flatten s (xs.drop b) W wr hE1 hfl (by omega) (by rw [List.length_append, List.length_append]; omega) hn2 hsa hk hcmp eg hform).mono ?_
      rintro e w5 ⟨rfl, s', hp', hs', hk5, hE5⟩
      go_wp2
      go_roundw
      case rel =>
        have hmem : ∀ y ∈ s', y ∈ xs.drop a := fun y hy => by rw [hsd]; exact List.mem_append.2 (.inl (hp'.mem_iff.1 hy))
        refine ⟨b, b2, Bs ++ [s'], rfl, rfl, hb2, hlt, ?_, ?_, ?_, ?_, hE5.cast (by simp), hk.trans hk5 (fun _ _ h => h.elim id id)⟩
        · rw [List.flatten_append, List.length_append, hfl]; simp [hp'.length_eq]; omega
        · intro B hB
          rcases List.mem_append.1 hB with hB | hB
          · exact hea B hB
          · rw [List.mem_singleton.1 hB]; exact ⟨by rw [hp'.length_eq]; exact hsl, hs'⟩
        · rw [List.pairwise_append]
          refine ⟨htg, by simp, fun A hA B hB x hx y hy => ?_⟩
          rw [List.mem_singleton.1 hB] at hy
          exact hcut x (hpm.mem_iff.1 (List.mem_flatten.2 ⟨A, hA, hx⟩)) y (hmem y hy)
        · rw [hst, List.flatten_append]
          simpa using hpm.append hp'
      case measure => simp [intOf]; omega
    · have hlz : ¬ (b : Int) ≤ (n : Int) := by omega
      have hcut := pw_cut hasc a
      have hdl : (xs.drop a).length = n - a := by rw [List.length_drop, hn]
      go_wp2_with fail
      refine (ins_any n c a n g cf gc lb hcf enc rest Bs.flatten (xs.drop a) [] W wr (hE.cast (by simp)) hfl (by omega) (by rw [List.append_nil, List.length_append]; omega) hn2 (pw_drop hasc a) hk hcmp eg hform).mono ?_
      rintro e w5 ⟨rfl, T, hpT, hsT, hk5, hE5⟩
      have hR0 : Runs cf xs 20 Bs T := by
        refine ⟨hea, htg, fun x hx y hy => hcut x (hpm.mem_iff.1 hx) y (hpT.mem_iff.1 hy), hsT, by rw [hpT.length_eq]; omega, ?_⟩
        have := hpm.append hpT
        rwa [List.take_append_drop] at this
      have hE6 := hE5.cast (ys := Bs.flatten ++ T) (by simp)
      have hk6 := hk.trans hk5 (fun _ _ h => h.elim id id)
      clear hE5 hk5 hE hk hpT hsT hpm hea htg hcut
      go_wp2_with fail
      clear hdl hfl hlz
      go_loopw [6] (fun sv wr => ∃ (bs : Nat) (Bs : List (List Nat)) (T : List Nat), sv = .int .i64 (bs : Int) ∧ 20 ≤ bs ∧ bs ≤ 2 * n + 40 ∧ Runs cf xs bs Bs T ∧ El enc rest g (Bs.flatten ++ T) wr ∧ Seq.Kpt (fun i => i = g) W wr) (fun sv _ => n - (intOf sv).toNat)
      case atStart => exact ⟨20, Bs, T, rfl, by omega, by omega, hR0, hE6, hk6⟩
      case round =>
        clear hR0 hE6 hk6
        obtain ⟨bs, Bs, T, rfl, hbs1, hbs2, hRn, hEr, hkr⟩ := hrel
        by_cases hlt2 : bs < n
        · have hlz2 : (bs : Int) < (n : Int) := by omega
          obtain ⟨b2, hb2⟩ : ∃ b2 : Nat, 2 * bs = b2 := ⟨_, rfl⟩
          have w1 : (2 : Int) * (bs : Int) = (b2 : Int) := by omega
          have w1' : (bs : Int) * 2 = (b2 : Int) := by omega
          have w2 : IntKind.i64.wrap (b2 : Int) = (b2 : Int) := wrapN (by omega)
          have w3 : IntKind.i64.wrap 2 = 2 := by rfl
          have hM0 := Mid.start hRn
          go_wp2_with fail
          go_loopw [7, 8] (fun av bv wq => ∃ (a b : Nat) (D B' : List (List Nat)), av = .int .i64 (a : Int) ∧ bv = .int .i64 (b : Int) ∧ a + b2 = b ∧ D.flatten.length = a ∧ Mid cf xs bs D B' T ∧ El enc rest g (D.flatten ++ B'.flatten ++ T) wq ∧ Seq.Kpt (fun i => i = g) W wq) (fun av _ _ => n - (intOf av).toNat)
          case atStart => exact ⟨0, b2, [], Bs, rfl, rfl, by omega, rfl, hM0, hEr.cast (by simp), hkr⟩
          case round =>
            clear hM0 hRn hEr hkr
            obtain ⟨a, b, D, B', rfl, rfl, hab, hDl, hMd, hEq, hkq⟩ := hrel
            obtain ⟨hl1, hl2, hl3⟩ := hMd.lens
            have hTl := hMd.len
            rw [hDl, hn] at hl3
            obtain ⟨am, ham⟩ : ∃ am : Nat, a + bs = am := ⟨_, rfl⟩
            have v1 : (a : Int) + (bs : Int) = (am : Int) := by omega
            have v2 : IntKind.i64.wrap (am : Int) = (am : Int) := wrapN (by omega)
            by_cases hbn : b ≤ n
            · have hbz : (b : Int) ≤ (n : Int) := by omega
              have hB2l : ¬ B'.length < 2 := by
                intro hc
                rcases (by omega : B'.length = 0 ∨ B'.length = 1) with h | h
                · rw [h] at hl2; omega
                · rw [h] at hl2; omega
              obtain ⟨B1, B2, B'', rfl⟩ : ∃ B1 B2 B'', B' = B1 :: B2 :: B'' := by
                match B', hB2l with
                | [], h => simp at h
                | [B], h => simp at h
                | B1 :: B2 :: B'', _ => exact ⟨B1, B2, B'', rfl⟩
              have hB1 := hMd.each B1 (by simp)
              have hB2 := hMd.each B2 (by simp)
              have htg := List.pairwise_append.1 hMd.tags
              have ht12 := (List.pairwise_cons.1 htg.2.1).1 B2 (by simp)
              obtain ⟨b3, hb3⟩ : ∃ b3 : Nat, b + b2 = b3 := ⟨_, rfl⟩
              have v3 : (b : Int) + (b2 : Int) = (b3 : Int) := by omega
              have v4 : IntKind.i64.wrap (b3 : Int) = (b3 : Int) := wrapN (by omega)
              obtain ⟨Q, hQ⟩ : ∃ Q, B''.flatten ++ T = Q := ⟨_, rfl⟩
              have hQl : b + Q.length = n := by
                rw [← hQ, List.length_append]
                rw [List.flatten_cons, List.flatten_cons, List.length_append, List.length_append, hB1.1, hB2.1] at hl3
                omega
              have hE1 := hEq.cast (ys := D.flatten ++ B1 ++ B2 ++ Q) (by rw [← hQ]; simp)
              clear hl1 hl2 hl3
              go_wp2_with fail
              refine (SYM (b - a) a am b D.flatten B1 B2 Q wr (Nat.le_refl _) hE1 hDl (by omega) (by omega) hQl (by omega) (by omega) hB1.2 hB2.2 ht12 hkq).mono ?_
              rintro e w6 ⟨rfl, S, hpS, hsS, hk7, hE7⟩
              have hM2 := hMd.step hpS hsS
              go_wp2
              go_roundw
              case rel => exact ⟨b, b3, D ++ [S], B'', rfl, rfl, hb3, by rw [List.flatten_append, List.length_append, hDl]; simp [hpS.length_eq]; omega, hM2, hE7.cast (by rw [← hQ]; simp), hkq.trans hk7 (fun _ _ h => h.elim id id)⟩
              case measure => simp [intOf]; omega
            · have hbz : ¬ (b : Int) ≤ (n : Int) := by omega
              by_cases hmn : am < n
              · have hmz : (am : Int) < (n : Int) := by omega
                have hB1l : B'.length = 1 := by
                  rcases (show B'.length = 0 ∨ B'.length = 1 ∨ ∃ k, B'.length = k + 2 from by
                    rcases h : B'.length with _ | _ | k
                    · exact .inl rfl
                    · exact .inr (.inl rfl)
                    · exact .inr (.inr ⟨k, rfl⟩)) with h | h | ⟨k, h⟩
                  · rw [h] at hl2; omega
                  · exact h
                  · rw [h, Nat.mul_add] at hl2; omega
                obtain ⟨B, rfl⟩ : ∃ B, B' = [B] := List.length_eq_one_iff.1 hB1l
                have hB1 := hMd.each B (by simp)
                have hl4 : a + bs + T.length = n := by rw [← hl3]; simp [hB1.1]
                have htg : ∀ x ∈ B, ∀ y ∈ T, x < y := fun x hx y hy => hMd.tag x (by simp [hx]) y hy
                have hE1 := hEq.cast (ys := D.flatten ++ B ++ T ++ []) (by simp)
                have hlT := hMd.last
                clear hl1 hl2 hl3
                go_wp2_with fail
                refine (SYM (n - a) a am n D.flatten B T [] wr (Nat.le_refl _) hE1 hDl (by omega) (by omega) (by simp) (by omega) (by omega) hB1.2 hlT htg hkq).mono ?_
                rintro e w6 ⟨rfl, S, hpS, hsS, hk7, hE7⟩
                have hM2 := hMd.ends (S := S) (hpS.trans (by simp)) hsS (by rw [hpS.length_eq, List.length_append]; omega)
                go_wp2
                go_roundw
                case rel => exact ⟨b2, D, S, rfl, by omega, by omega, by rw [← hb2]; exact hM2, hE7.cast (by simp), hkq.trans hk7 (fun _ _ h => h.elim id id)⟩
                case measure => simp [intOf]; omega
              · have hmz : ¬ (am : Int) < (n : Int) := by omega
                have hsS : (B'.flatten ++ T).Pairwise (Lt cf) := by
                  rcases (show B'.length = 0 ∨ B'.length = 1 ∨ ∃ k, B'.length = k + 2 from by
                    rcases h : B'.length with _ | _ | k
                    · exact .inl rfl
                    · exact .inr (.inl rfl)
                    · exact .inr (.inr ⟨k, rfl⟩)) with h | h | ⟨k, h⟩
                  · rw [List.eq_nil_of_length_eq_zero h]; simpa using hMd.last
                  · have hT0 : T = [] := List.eq_nil_of_length_eq_zero (by rw [h] at hl2; omega)
                    obtain ⟨B, rfl⟩ : ∃ B, B' = [B] := List.length_eq_one_iff.1 h
                    rw [hT0]
                    simpa using (hMd.each B (by simp)).2
                  · rw [h, Nat.mul_add] at hl2; omega
                have hM2 := hMd.ends (S := B'.flatten ++ T) (List.Perm.refl _) hsS (by rw [List.length_append]; omega)
                clear hl1 hl2 hl3 hsS
                go_wp2
                go_roundw
                case rel => exact ⟨b2, D, B'.flatten ++ T, rfl, by omega, by omega, by rw [← hb2]; exact hM2, hEq.cast (by simp), hkq⟩
                case measure => simp [intOf]; omega
        · have hlz2 : ¬ (bs : Int) < (n : Int) := by omega
          go_wp2
          go_end0
          exact ⟨rfl, _, hRn.perm, hRn.done (by omega) (by omega), hkr, hEr⟩

theorem sortStable_any (g n c : Nat) (cf : Nat → Nat → Int) (gc : Nat) (lb : Array Value) (hcf : CmpOk cf) (enc : Nat → Value) (rest : List Value) (hn2 : n ≤ 5864062014805)
    (eg : ∀ args w, (callFunc gc args).run Tryd.prog w = .ok (.enter gc args) w) (hform : ∀ x, ∃ A m k, enc x = .slice A m k)
    (xs : List Nat) (W : World) (hx : El enc rest g xs W) (hn : xs.length = n) (hasc : xs.Pairwise (· < ·)) (hcmp : CmpAt cf enc gc lb g W) :
    Calls Tryd.prog 63 #[.slice (some ⟨g, 0, none⟩) n c, .func (.func gc) #[] lb] W fun e W' => e = .returned (.tuple #[]) ∧
      ∃ S, S.Perm xs ∧ S.Pairwise (Lt cf) ∧ Seq.Kpt (fun i => i = g) W W' ∧ El enc rest g S W' := by
  go_enter Tryd.func63, Tryd.ntmps63
  go_wp2_with fail
  refine (stable_any g n c cf gc lb hcf enc rest hn2 eg hform xs W hx hn hasc hcmp).mono ?_
  rintro e w5 ⟨rfl, h⟩
  go_wp2
  go_end0
  exact ⟨rfl, h⟩
end Go.Proofs.YtihdlalbgdighaaDoor.QV
/- exec.Sort's comparison. -/
namespace Go.Proofs.YtihdlalbgdighaaDoor.QV
open Go.RowKit Go.Proofs.YtihdlalbgdighaaDoorW.PrintWords Go.Proofs.YtihdlalbgdighaaDoor.SeqW Go.Shelf Go.Proofs.YtihdlalbgdighaaDoor.Op Go.Proofs.YtihdlalbgdighaaDoor.Stab
set_option linter.unusedVariables false
set_option linter.unusedSimpArgs false
attribute [local go_sem] Oper.semAt_some
abbrev kO : Kd Ord := k97
theorem kO_at {w : World} {A : Option Addr} {xs : List Ord} (h : kO.C w A xs.length xs) (i : Nat) (hi : i < xs.length) : ∃ ad, A = some ad ∧ w.cell? (ad.add (i * 2)) = some (.int .i64 (xs.getD i z97).f0) ∧ w.cell? ⟨(ad.add (i * 2)).block, (ad.add (i * 2)).off + 1, none⟩ = some (.bool (xs.getD i z97).f1) := by
  obtain ⟨ad, c, e, _, hK, hc0⟩ := Kd.C_get h z97 i (by omega) (by omega)
  have hc : ∀ j u, c[j]? = some u → w.cell? (ad.add (i * 2 + j)) = some u := hc0
  obtain rfl := k97_open hK
  exact ⟨ad, e, hc 0 _ rfl, by rw [← add_field _ _ 1 (by omega)]; exact hc 1 _ rfl⟩
def signed (d : Bool) (n : Int) : Int := if d then -n else n
theorem ordS_cons (o : Ord) (l : List Ord) (a b : Row) : ordS (o :: l) a b = if signed o.f1 (cmpV (toV (atS a o.f0)) (toV (atS b o.f0))) ≠ 0 then signed o.f1 (cmpV (toV (atS a o.f0)) (toV (atS b o.f0))) else ordS l a b := rfl

set_option maxRecDepth 100000 in
set_option maxHeartbeats 4000000 in
theorem cmpO_any (l : List Ord) (Al : Option Addr) (cl B : Nat) (A : Option Addr) (a : Row) (ca : Nat) (D : Option Addr) (b : Row) (cb : Nat) (w : World) (hB : w.cell? ⟨B, 0, none⟩ = some (.slice Al l.length cl)) (hl : kO.C w Al l.length l) (ha : kS.C w A a.length a) (hca : a.length ≤ ca) (hb : kS.C w D b.length b) (hcb : b.length ≤ cb) :
    Calls Tryd.prog 64 #[.slice A a.length ca, .slice D b.length cb, .pointer (some ⟨B, 0, none⟩)] w fun e w' => e = .returned (.int .i64 (ordS l a b)) ∧ Below w.heap.size w w' := by
  have hml := hl.2.1
  go_enter Tryd.func64, Tryd.ntmps64
  go_wp2_with fail
  go_loopw [11] (fun iv wr => ∃ i : Nat, i ≤ l.length ∧ iv = .int .i64 (i : Int) ∧ ordS l a b = ordS (l.drop i) a b ∧ Below w.heap.size w wr) (fun iv _ => l.length - (intOf iv).toNat)
  case atStart => exact ⟨0, Nat.zero_le _, rfl, rfl, Below.refl _ _⟩
  case round =>
    obtain ⟨i, hi, rfl, hE, hb0⟩ := hrel
    have HE := Lib.hid hE
    clear hE
    by_cases hlt : i < l.length
    · obtain ⟨ad, rfl, e0, e1⟩ := kO_at (Kd.C_below hl hb0) i hlt
      have hd := drop_get z97 l i hlt
      generalize l.getD i z97 = o at e0 e1 hd
      obtain ⟨oc, od⟩ := o
      simp only at e0 e1
      have hoc := ordS_cons ⟨oc, od⟩ (l.drop (i + 1)) a b
      rw [← hd] at hoc
      simp only at hoc
      have hat := at_f a oc
      have hbt := at_f b oc
      obtain ⟨va, hva⟩ : ∃ v, atS a oc = v := ⟨_, rfl⟩
      obtain ⟨vb, hvb⟩ : ∃ v, atS b oc = v := ⟨_, rfl⟩
      rw [hva] at hat
      rw [hvb] at hbt
      rw [hva, hvb] at hoc
      clear hva hvb hd
      obtain ⟨p0, p1, p2, p3⟩ := va
      obtain ⟨q0, q1, q2, q3⟩ := vb
      simp only at hat hbt
      obtain ⟨n, hn⟩ : ∃ n, cmpV (toV ⟨p0, p1, p2, p3⟩) (toV ⟨q0, q1, q2, q3⟩) = n := ⟨_, rfl⟩
      have hnr := cmpV_range (toV ⟨p0, p1, p2, p3⟩) (toV ⟨q0, q1, q2, q3⟩)
      rw [hn] at hoc hnr
      have HOC := Lib.hid hoc
      have HN := Lib.hid hn
      clear hoc hn
      go_wp2_with fail
      obtain ⟨w1, hw1⟩ : ∃ w1, wr.alloc (.cells #[.int .i64 oc, .bool od] 97) = w1 := ⟨_, rfl⟩
      rw [hw1]
      have hb1 : Below wr.heap.size wr w1 := by rw [← hw1]; exact below_alloc (Below.refl _ _) _
      have g1 : w1.heap[wr.heap.size]? = some (.cells #[.int .i64 oc, .bool od] 97 (0, 0)) := by rw [← hw1]; exact blk_new _ _
      clear hw1
      have hB1 : Below w.heap.size w w1 := hb0.trans (hb1.mono hb0.size)
      have keep : ∀ V, Below w1.heap.size w1 V → V.cell? ⟨wr.heap.size, 0, none⟩ = some (.int .i64 oc) ∧ V.cell? ⟨wr.heap.size, 1, none⟩ = some (.bool od) := fun V hV => ⟨blk_cell (blk_below g1 hV) 0, blk_cell (blk_below g1 hV) 1⟩
      have kd := below_drew (Below.refl w1.heap.size w1)
      refine (wpIn_wide (n := 0)).1 ?_
      refine wpIn_region_R (l := 0) 10 (S := fun V => V.cell? ⟨wr.heap.size, 0, none⟩ = some (.int .i64 oc) ∧ V.cell? ⟨wr.heap.size, 1, none⟩ = some (.bool od)) (by kernel_rfl) (keep _ kd) (fun hS0 => ?_)
      refine wpAnyR_take (i := 0) (oi := ⟨some 15, _, _, _, _, _⟩) (v := ?_) (by kernel_rfl) (by kernel_rfl) rfl (by kernel_rfl) (by kernel_rfl) (by kernel_rfl) (fun _ _ _ h => h) (Or.inl ⟨by rfl, ?_⟩) (by assumption) ?_
      rotate_left
      · intro w hSw; (try dsimp only at hSw); (try go_split_ands); go_simp; (try (with_reducible rfl))
      (try simp only [Act.put, List.setIfInBounds_toArray, List.set_cons_zero, List.set_cons_succ])
      refine wpAnyR_take (i := 1) (oi := ⟨some 16, _, _, _, _, _⟩) (v := ?_) (by kernel_rfl) (by kernel_rfl) rfl (by kernel_rfl) (by kernel_rfl) (by kernel_rfl) (fun _ _ _ h => h) (Or.inl ⟨by rfl, ?_⟩) (by assumption) ?_
      rotate_left
      · intro w hSw; (try dsimp only at hSw); (try go_split_ands); go_simp; (try (with_reducible rfl))
      (try simp only [Act.put, List.setIfInBounds_toArray, List.set_cons_zero, List.set_cons_succ])
      refine wpAnyR_take (i := 2) (oi := ⟨some 17, _, _, _, _, _⟩) (v := ?_) (by kernel_rfl) (by kernel_rfl) rfl (by kernel_rfl) (by kernel_rfl) (by kernel_rfl) (fun _ _ _ h => h) (Or.inl ⟨by rfl, ?_⟩) (by assumption) ?_
      rotate_left
      · intro w hSw; (try dsimp only at hSw); (try go_split_ands); go_simp; (try (with_reducible rfl))
      (try simp only [Act.put, List.setIfInBounds_toArray, List.set_cons_zero, List.set_cons_succ])
      refine wpAnyR_take (i := 4) (oi := ⟨some 19, _, _, _, _, _⟩) (v := ?_) (by kernel_rfl) (by kernel_rfl) rfl (by kernel_rfl) (by kernel_rfl) (by kernel_rfl) (fun _ _ _ h => h) (Or.inl ⟨by rfl, ?_⟩) (by assumption) ?_
      rotate_left
      · intro w hSw; (try dsimp only at hSw); (try go_split_ands); go_simp; (try (with_reducible rfl))
      (try simp only [Act.put, List.setIfInBounds_toArray, List.set_cons_zero, List.set_cons_succ])
      refine wpAnyR_take (i := 5) (oi := ⟨some 20, _, _, _, _, _⟩) (v := ?_) (by kernel_rfl) (by kernel_rfl) rfl (by kernel_rfl) (by kernel_rfl) (by kernel_rfl) (fun _ _ _ h => h) (Or.inl ⟨by rfl, ?_⟩) (by assumption) ?_
      rotate_left
      · intro w hSw; (try dsimp only at hSw); (try go_split_ands); go_simp; (try (with_reducible rfl))
      (try simp only [Act.put, List.setIfInBounds_toArray, List.set_cons_zero, List.set_cons_succ])
      refine wpAnyR_take (i := 6) (oi := ⟨some 21, _, _, _, _, _⟩) (v := ?_) (by kernel_rfl) (by kernel_rfl) rfl (by kernel_rfl) (by kernel_rfl) (by kernel_rfl) (fun _ _ _ h => h) (Or.inl ⟨by rfl, ?_⟩) (by assumption) ?_
      rotate_left
      · intro w hSw; (try dsimp only at hSw); (try go_split_ands); go_simp; (try (with_reducible rfl))
      (try simp only [Act.put, List.setIfInBounds_toArray, List.set_cons_zero, List.set_cons_succ])
      refine wpAnyR_one (i := 3) (o := ⟨some 18, _, _, _, _, _⟩) (by kernel_rfl) (by kernel_rfl) rfl (fun K hK => ?_)
      go_simp
      refine (exec_at.calls A ca a oc _ _ _ _ w1.drew (Kd.C_drew (Kd.C_below ha hB1)) hca hat).mono ?_
      rintro e w2 ⟨rfl, hb2⟩
      have k2 := kd.trans hb2
      have hS2 := keep _ k2
      (try dsimp only)
      refine hK.out _ _ (.inr hS2) ?_
      clear hK K
      (try simp only [Act.put, List.setIfInBounds_toArray, List.set_cons_zero, List.set_cons_succ])
      refine wpAnyR_one (i := 7) (o := ⟨some 22, _, _, _, _, _⟩) (by kernel_rfl) (by kernel_rfl) rfl (fun K hK => ?_)
      go_simp
      refine (exec_at.calls D cb b oc _ _ _ _ w2 (Kd.C_below (Kd.C_below hb hB1) k2) hcb hbt).mono ?_
      rintro e w3 ⟨rfl, hb3⟩
      have k3 := k2.trans (hb3.mono k2.size)
      have hS3 := keep _ k3
      (try dsimp only)
      refine hK.out _ _ (.inr hS3) ?_
      clear hK K
      (try simp only [Act.put, List.setIfInBounds_toArray, List.set_cons_zero, List.set_cons_succ])
      refine wpAnyR_one (i := 8) (o := ⟨some 23, _, _, _, _, _⟩) (by kernel_rfl) (by kernel_rfl) rfl (fun K hK => ?_)
      go_simp
      refine (value_Compare.calls p0 p1 p2 p3 q0 q1 q2 q3 n w3 (by rw [← HN.out]; rfl)).mono ?_
      rintro e w4 ⟨rfl, hb4⟩
      have k4 := k3.trans (hb4.mono k3.size)
      have hS4 := keep _ k4
      obtain ⟨e41, e42⟩ := hS4
      have hS4 := And.intro e41 e42
      (try dsimp only)
      refine hK.out _ _ (.inr hS4) ?_
      clear hK K
      (try simp only [Act.put, List.setIfInBounds_toArray, List.set_cons_zero, List.set_cons_succ])
      refine wpAnyR_take (i := 9) (oi := ⟨some 8, _, _, _, _, _⟩) (v := ?_) (by kernel_rfl) (by kernel_rfl) rfl (by kernel_rfl) (by kernel_rfl) (by kernel_rfl) (fun _ _ _ h => h) (Or.inl ⟨by rfl, ?_⟩) (by assumption) ?_
      rotate_left
      · intro w hSw; (try dsimp only at hSw); (try go_split_ands); go_simp; (try (with_reducible rfl))
      (try simp only [Act.put, List.setIfInBounds_toArray, List.set_cons_zero, List.set_cons_succ])
      refine wpAnyR_done (by kernel_rfl) ?_ _
      have hB4 : Below w.heap.size w w4 := hB1.trans (k4.mono hB1.size)
      have hng : IntKind.i64.wrap (-n) = -n := by rw [IntKind.wrap_i64]; omega
      have hoc := HOC.out
      clear HOC
      cases od with
      | false =>
        simp only [signed, Bool.false_eq_true, if_false] at hoc
        by_cases h0 : n = 0
        · subst h0
          rw [if_neg (by omega)] at hoc
          have HOC := Lib.hid hoc
          clear hoc
          go_wp2
          go_roundw
          case rel => exact ⟨i + 1, by omega, by go_num, HE.out.trans HOC.out, hB4⟩
          case measure => simp [intOf]; omega
        · rw [if_pos h0] at hoc
          have HOC := Lib.hid hoc
          clear hoc
          have h0b : (n != 0) = true := by simpa using h0
          go_wp2
          go_ret
          exact ⟨by rw [HE.out, HOC.out]; rfl, hB4⟩
      | true =>
        simp only [signed, if_true] at hoc
        by_cases h0 : n = 0
        · subst h0
          rw [if_neg (by omega)] at hoc
          have HOC := Lib.hid hoc
          clear hoc
          go_wp2
          go_roundw
          case rel => exact ⟨i + 1, by omega, by go_num, HE.out.trans HOC.out, hB4⟩
          case measure => simp [intOf]; omega
        · rw [if_pos (by omega)] at hoc
          have HOC := Lib.hid hoc
          clear hoc
          have h0n : ¬ -n = 0 := by omega
          have h0b : (-n != 0) = true := by simpa using h0n
          go_wp2
          go_ret
          exact ⟨by rw [HE.out, HOC.out]; rfl, hB4⟩
    · obtain rfl : i = l.length := by omega
      go_wp2_with fail
      refine (value_Rows.calls A ca a D cb b _ wr (Kd.C_below ha hb0) hca (Kd.C_below hb hb0) hcb rfl).mono ?_
      rintro e w2 ⟨rfl, hb2⟩
      go_wp2
      go_ret
      exact ⟨by rw [HE.out, List.drop_of_length_le (Nat.le_refl _)]; rfl, hb0.trans (hb2.mono hb0.size)⟩
end Go.Proofs.YtihdlalbgdighaaDoor.QV
/- exec.Sort, walked. -/
namespace Go.Proofs.YtihdlalbgdighaaDoor.QV
open Go.RowKit Go.Proofs.YtihdlalbgdighaaDoorW.PrintWords Go.Proofs.YtihdlalbgdighaaDoor.SeqW Go.Shelf Go.Proofs.YtihdlalbgdighaaDoor.Op Go.Proofs.YtihdlalbgdighaaDoor.Stab
set_option linter.unusedVariables false
set_option maxRecDepth 100000
set_option linter.unusedSimpArgs false

/-- A list of rows of one's own, as the sort takes it. -/
theorem rows_enc {W : World} {base : Nat} {ok : Nat → Prop} {v : Value} {xs : List Row} (hS : Kd.S kRows tRow W base ok v xs) (hn : 0 < xs.length) :
    ∃ g cap enc rest, v = .slice (some ⟨g, 0, none⟩) xs.length cap ∧ xs.length ≤ cap ∧ base ≤ g ∧ g < W.heap.size ∧ El enc rest g (List.range xs.length) W ∧
      ∀ i, ∃ A c, enc i = .slice A (xs.getD i []).length c ∧ (xs.getD i []).length ≤ c ∧ ∀ V, Seq.Kpt (fun j => j = g) W V → kS.C V A (xs.getD i []).length (xs.getD i []) := by
  obtain ⟨g, cap, rfl, hgb, hgl, cells, hcells⟩ := Kd.S_form hS hn
  have hle := (Kd.S_reads' hS).2.1
  have hget : ∀ i, i < xs.length → ∃ A c, cells[i]? = some (.slice A (xs.getD i []).length c) ∧ (xs.getD i []).length ≤ c ∧ ∀ V, Seq.Kpt (fun j => j = g) W V → kS.C V A (xs.getD i []).length (xs.getD i []) := by
    intro i hi
    obtain ⟨cs, hcl, hM, hcc⟩ := Kd.S_get hS [] (i : Int) (by omega) (by omega)
    rw [Int.toNat_natCast] at hM hcc
    obtain ⟨u, rfl, hR⟩ := hM
    have hsz : kRows.sz = 1 := rfl
    have hc0 := hcc 0 u rfl
    rw [hsz, Nat.mul_one, Nat.add_zero] at hc0
    have hc1 : W.cell? ⟨g, i, none⟩ = some u := by rwa [add_plain] at hc0
    rw [blk_cell hcells] at hc1
    obtain ⟨A, c, rfl, hlx, hC⟩ := Kd.R_reads hR
    refine ⟨A, c, hc1, hlx, fun V hV => ?_⟩
    have hRV : kS.R tS V base (fun k => (ok k ∧ some k ≠ (Value.slice (some ⟨g, 0, none⟩) xs.length cap).ownBlock) ∧ k < W.heap.size) (.slice A (xs.getD i []).length c) (xs.getD i []) := by
      refine Kd.R_move (Kd.R_mono (Kd.R_bound hR) (fun k hk => ⟨hk.1, hk.2.2.1⟩)) (fun k hk => hV.block k hk.2 (fun e => hk.1.2 (by rw [e]; rfl)))
    obtain ⟨A', c', e, _, hC'⟩ := Kd.R_reads hRV
    injection e with e1 e2 e3
    rw [e1]; exact hC'
  have hsz : xs.length ≤ cells.size := by
    obtain ⟨A, c, h, _⟩ := hget (xs.length - 1) (by omega)
    have := (Array.getElem?_eq_some_iff.1 h).1
    omega
  refine ⟨g, cap, fun i => if i < xs.length then cells.getD i .nilFunc else .slice none 0 0, cells.toList.drop xs.length, rfl, hle, hgb, hgl, ?_, fun i => ?_⟩
  · refine hcells.trans ?_
    congr 3
    refine Array.toList_inj.1 ?_
    rw [List.toList_toArray]
    have : (List.range xs.length).map (fun i => if i < xs.length then cells.getD i .nilFunc else .slice none 0 0) = cells.toList.take xs.length := by
      refine List.ext_getElem (by simp; omega) (fun i h1 h2 => ?_)
      have hi : i < xs.length := by simpa using h1
      simp [hi, Array.getD_eq_getD_getElem?, Array.getElem?_eq_getElem (show i < cells.size by omega)]
    rw [this, List.take_append_drop]
  · by_cases hi : i < xs.length
    · obtain ⟨A, c, h1, h2, h3⟩ := hget i hi
      refine ⟨A, c, ?_, h2, h3⟩
      simp only [if_pos hi, Array.getD_eq_getD_getElem?, h1, Option.getD_some]
    · have hx : xs.getD i [] = [] := by rw [List.getD_eq_getElem?_getD, List.getElem?_eq_none (by omega)]; rfl
      refine ⟨none, 0, ?_, ?_, fun V _ => ?_⟩
      · simp only [if_neg hi, hx, List.length_nil]
      · rw [hx]; simp
      · rw [hx]; simp [Kd.C, ReadsRow]
/-- What is read once it is sorted. -/
theorem enc_rows {W : World} {enc : Nat → Value} {rest : List Value} {g : Nat} {S : List Nat} {xs : List Row} (hE : El enc rest g S W) (hmax : S.length ≤ 9223372036854775807)
    (henc : ∀ i, ∃ A c, enc i = .slice A (xs.getD i []).length c ∧ (xs.getD i []).length ≤ c ∧ kS.C W A (xs.getD i []).length (xs.getD i [])) :
    kRows.C W (some ⟨g, 0, none⟩) (S.map (fun i => xs.getD i [])).length (S.map (fun i => xs.getD i [])) := by
  refine ⟨rfl, by rw [List.length_map]; exact hmax, fun _ => ⟨_, rfl, fun j p hj => ?_⟩⟩
  rw [List.getElem?_map] at hj
  obtain ⟨i, hi, rfl⟩ := Option.map_eq_some_iff.1 hj
  obtain ⟨A, c, h1, h2, h3⟩ := henc i
  have hc : W.cell? ⟨g, j, none⟩ = some (enc i) := by
    rw [blk_cell hE]
    have hjl : j < S.length := (List.getElem?_eq_some_iff.1 hi).1
    rw [List.getElem?_toArray, List.getElem?_append_left (by simpa using hjl), List.getElem?_map, hi]
    rfl
  refine ⟨[enc i], rfl, ⟨A, c, by rw [h1], h2, h3⟩, fun k u hu => ?_⟩
  have hsz : kRows.sz = 1 := rfl
  cases k with
  | zero =>
    obtain rfl : enc i = u := by simpa using hu
    rw [hsz, Nat.mul_one, Nat.add_zero, add_plain]
    exact hc
  | succ k => simp at hu

set_option maxHeartbeats 1000000 in
theorem sortStable_nil (A : Option Addr) (c : Nat) (cv : Value) (hcv : ∃ gc lb, cv = .func (.func gc) #[] lb) (W : World) :
    Calls Tryd.prog 63 #[.slice A 0 c, cv] W fun e W' => e = .returned (.tuple #[]) ∧ W' = W := by
  obtain ⟨gc, lb, rfl⟩ := hcv
  have h1 : Calls Tryd.prog 100 #[.slice A 0 c, .int .i64 0, .int .i64 0, .func (.func gc) #[] lb] W fun e W' => e = .returned (.tuple #[]) ∧ W' = W := by
    go_enter Tryd.func100, Tryd.ntmps100
    go_wp2_with fail
    go_loopw [8] (fun i wr => i = .int .i64 1 ∧ wr = W) (fun i _ => 0)
    case atStart => exact ⟨rfl, rfl⟩
    case round =>
      obtain ⟨rfl, rfl⟩ := hrel
      go_wp2
      go_end0
      exact ⟨rfl, rfl⟩
  have h2 : Calls Tryd.prog 88 #[.slice A 0 c, .int .i64 0, .func (.func gc) #[] lb] W fun e W' => e = .returned (.tuple #[]) ∧ W' = W := by
    go_enter Tryd.func88, Tryd.ntmps88
    go_wp2_with fail
    go_loopw [7, 8] (fun a b wr => a = .int .i64 0 ∧ b = .int .i64 20 ∧ wr = W) (fun i _ _ => 0)
    case atStart => exact ⟨rfl, rfl, rfl⟩
    case round =>
      obtain ⟨rfl, rfl, rfl⟩ := hrel
      go_wp2_with fail
      refine h1.mono ?_
      rintro e w5 ⟨rfl, rfl⟩
      go_wp2_with fail
      go_loopw [6] (fun a wr => a = .int .i64 20 ∧ wr = w5) (fun i _ => 0)
      case atStart => exact ⟨rfl, rfl⟩
      case round =>
        obtain ⟨rfl, rfl⟩ := hrel
        go_wp2
        go_end0
        exact ⟨rfl, rfl⟩
  go_enter Tryd.func63, Tryd.ntmps63
  go_wp2_with fail
  refine h2.mono ?_
  rintro e w5 ⟨rfl, rfl⟩
  go_wp2
  go_end0
  exact ⟨rfl, rfl⟩

set_option maxRecDepth 100000 in
set_option maxHeartbeats 4000000 in
theorem sort_any (A0 : Option Addr) (c0 : Nat) (xs : List Row) (Al : Option Addr) (cl : Nat) (l : List Ord) (w : World) (hr : kRows.C w A0 xs.length xs) (hc : xs.length ≤ c0) (hl : kO.C w Al l.length l) (hcl : l.length ≤ cl)
    (hx : ∀ x ∈ xs, x.length ≤ 1048576) (hn : xs.length ≤ 5864062014800) :
    Calls Tryd.prog 28 #[.slice A0 xs.length c0, .slice Al l.length cl] w fun e w' => ∃ A c R, e = .returned (.slice A R.length c) ∧ R.length ≤ c ∧ kRows.C w' A R.length R ∧ Sorts [] (ordS l) xs R ∧ Below w.heap.size w w' := by
  go_enter Tryd.func28, Tryd.ntmps28
  go_wp2_with fail
  obtain ⟨w1, hw1⟩ : ∃ w1, w.alloc (.cells #[.slice Al l.length cl] 25) = w1 := ⟨_, rfl⟩
  rw [hw1]
  have hb1 : Below w.heap.size w w1 := by rw [← hw1]; exact below_alloc (Below.refl _ _) _
  have g1 : w1.heap[w.heap.size]? = some (.cells #[.slice Al l.length cl] 25 (0, 0)) := by rw [← hw1]; exact blk_new _ _
  clear hw1
  have hz1 := blk_lt g1
  go_loopw [5, 10] (fun v i wr => ∃ k : Nat, k ≤ xs.length ∧ i = .int .i64 k ∧ Kd.S kRows tRow wr w1.heap.size (fun _ => True) v (xs.take k) ∧ Below w1.heap.size w1 wr) (fun _ i _ => xs.length - (intOf i).toNat)
  case atStart => exact ⟨0, Nat.zero_le _, rfl, Kd.S_nil _ _ _ _ _, Below.refl _ _⟩
  case round =>
    obtain ⟨k, hk, rfl, hS, hB⟩ := hrel
    have hBw : Below w.heap.size w wr := hb1.trans (hB.mono hb1.size)
    by_cases hlt : k < xs.length
    · obtain ⟨ad, cs, rfl, _, ⟨Ad, cp, rfl, hle, hC⟩, hcs⟩ := Kd.C_get hr [] k (by omega) (by omega)
      rw [Int.toNat_natCast] at hle hC hcs
      have hsz : kRows.sz = 1 := rfl
      have hc0 := pw_cell_below hBw (hcs 0 _ rfl)
      rw [hsz, Nat.mul_one, Nat.add_zero] at hc0
      have hts := take_snoc' ([] : Row) xs k hlt
      have hlen : (xs.take k).length = k := by rw [List.length_take]; omega
      have hxl := hx _ (getD_mem [] hlt)
      generalize xs.getD k [] = x at *
      generalize xs.take k = P at *
      go_wp2_with fail
      refine (clone_any Ad x cp wr (Kd.C_below hC hBw) hle (by omega)).mono ?_
      rintro e w3 ⟨v3, rfl, hR3, hb3⟩
      obtain ⟨A3, c3, rfl, hle3, hC3⟩ := Kd.R_reads hR3
      have hB3 : Below w1.heap.size w1 w3 := hB.trans (hb3.mono hB.size)
      have hS3 : Kd.S kRows tRow w3 w1.heap.size (fun k => True ∧ ¬ ((Value.slice A3 x.length c3).ownBlock = some k)) u5 P := by
        refine Kd.S_mono (Kd.S_below (Kd.S_bound hS) hb3) (fun k hk => ⟨trivial, fun h => ?_⟩)
        have := Kd.R_base hR3 k h
        exact absurd this (by show ¬ wr.heap.size ≤ k; have := hk.2.2.1; omega)
      have hzr := hB.size
      have hz3 := hb3.size
      go_wp2_with (at_builtin; refine Kd.S_append kRows (w0 := w1) (W := w3) w1.heap.size rfl (.tmp 14) (.tmp 17) 28 62 _ 24 rfl Tryd.underlying28 infoRow rfl (by decide) (by decide) u5 P x [.slice A3 x.length c3] (fun _ => True) (fun k => (Value.slice A3 x.length c3).ownBlock = some k) rfl rfl ⟨_, rfl, RS_ok (Kd.R_lower hR3 (by omega)) (fun _ h => h)⟩ (fun k hk => ⟨trivial, fun e => by have h2 := Kd.S_lt hS k e.symm; have h3 := Kd.R_base hR3 k hk; omega⟩) (fun _ _ => trivial) hS3 hB3 (by omega) (by omega) ?_; intro v5 w5 hS5 hB5 hg5 hat5; clear hg5 hat5)
      go_roundw
      case rel => exact ⟨k + 1, by omega, by go_num, by rw [← hts]; exact hS5, hB5⟩
      case measure => simp [intOf]; omega
    · obtain rfl : k = xs.length := by omega
      rw [List.take_length] at hS
      by_cases h0 : xs.length = 0
      · obtain rfl : xs = [] := List.eq_nil_of_length_eq_zero h0
        obtain ⟨Af, cf, hv⟩ := Kd.S_slice hS
        subst hv
        go_wp2_with fail
        refine (sortStable_nil Af cf _ ⟨_, _, rfl⟩ wr).mono ?_
        rintro e w5 ⟨rfl, rfl⟩
        go_wp2
        go_ret
        refine ⟨Af, cf, [], rfl, Nat.zero_le _, ?_, Sorts.nil _ _, hBw⟩
        exact (Kd.S_reads' hS).2.2
      · obtain ⟨g, cap, enc, rest, hv, hcap, hgb, hgl, hE, henc⟩ := rows_enc hS (by omega)
        subst hv
        have hbox : wr.cell? ⟨w.heap.size, 0, none⟩ = some (.slice Al l.length cl) := blk_cell (blk_below g1 hB) 0
        have hcmp : CmpAt (fun i j => ordS l (xs.getD i []) (xs.getD j [])) enc 64 #[.pointer (some ⟨w.heap.size, 0, none⟩)] g wr := by
          intro i j V hV
          obtain ⟨Ai, ci, hi1, hi2, hi3⟩ := henc i
          obtain ⟨Aj, cj, hj1, hj2, hj3⟩ := henc j
          rw [hi1, hj1]
          have hVw : Below w1.heap.size wr V := hV.below hB.size (fun t _ e => by rw [e]; exact hgb)
          exact cmpO_any l Al cl w.heap.size Ai _ ci Aj _ cj V (blk_cell (blk_below g1 (hB.trans hVw)) 0) (Kd.C_below hl (hBw.trans (hV.below hBw.size (fun t _ e => by rw [e]; omega)))) (hi3 V hV) hi2 (hj3 V hV) hj2
        go_wp2_with fail
        refine (sortStable_any g xs.length cap _ _ _ ((preOrd l).ok [] xs) enc rest (by omega) (fun args w => rfl) (fun i => by obtain ⟨A, c, h, _⟩ := henc i; exact ⟨A, _, c, h⟩) (List.range xs.length) wr hE (by simp) List.pairwise_lt_range hcmp).mono ?_
        rintro e w5 ⟨rfl, S, hp, hs, hk5, hE5⟩
        go_wp2
        go_ret
        have hSl : S.length = xs.length := by rw [hp.length_eq, List.length_range]
        have hml : (S.map (fun i => xs.getD i [])).length = xs.length := by rw [List.length_map, hSl]
        refine ⟨some ⟨g, 0, none⟩, cap, S.map (fun i => xs.getD i []), by rw [hml]; rfl, by omega, enc_rows hE5 (by omega) (fun i => ?_), ⟨S, hp, hs, rfl⟩, ?_⟩
        · obtain ⟨A, c, h1, h2, h3⟩ := henc i
          exact ⟨A, c, h1, h2, h3 w5 hk5⟩
        · exact hBw.trans (hk5.below hBw.size (fun t _ e => by rw [e]; omega))
end Go.Proofs.YtihdlalbgdighaaDoor.QV
/- exec.Project: what its iterator gives. -/
namespace Go.Proofs.YtihdlalbgdighaaDoor.QV
open Go.RowKit Go.Proofs.YtihdlalbgdighaaDoorW.PrintWords Go.Proofs.YtihdlalbgdighaaDoor.Seq Go.Shelf Go.Proofs.YtihdlalbgdighaaDoor.Op
set_option linter.unusedVariables false
set_option maxRecDepth 100000
set_option linter.unusedSimpArgs false
attribute [local go_sem] Oper.semAt_some

set_option maxRecDepth 100000 in
set_option maxHeartbeats 4000000 in
theorem project_seq (xs : List Row) (cs : List Int) (At : Option Addr) (ct : Nat) (sv : Value) (b1 b2 : Nat) (w : World) (hR : IsSeq w sv xs)
    (h1 : w.cell? ⟨b1, 0, none⟩ = some sv) (h2 : w.cell? ⟨b2, 0, none⟩ = some (.slice At cs.length ct)) (hts : Kd.C (Kd.int .i64) w At cs.length cs) (hct : cs.length ≤ ct) (hcl : cs.length < 3518437208883)
    :
    SeqOf Tryd.prog 62 #[.pointer (some ⟨b1, 0, none⟩), .pointer (some ⟨b2, 0, none⟩)] (RdNew w) (xs.map (fun x => pickS x cs)) w := by
  intro l J Jx W Mc hW hMc hJ hJx hY h0
  have hcons : Cons Tryd.prog w W l J Jx Mc (xs.map (fun x => pickS x cs)) := ⟨hW, hMc, hJ, hJx, hY⟩
  have hzw : w.heap.size ≤ W.heap.size := hW.size
  obtain ⟨gR, lbR, RdR, rfl, egR, hsR, hkR, hrR⟩ := hR
  refine (callsIn_wide (n := 0)).1 (callsIn_of_wp_marks Tryd.func62 rfl trivial ?_ rfl)
  simp only [Tryd.ntmps62, List.size_toArray, List.length_cons, List.length_nil, Nat.reduceAdd, Nat.reduceSub, Array.replicate_succ, Array.replicate_zero, List.push_toArray, List.append_toArray, List.nil_append, List.cons_append]
  have d1 : (W.alloc (.cells #[.func (.yield l) #[] #[]] 102)).cell? ⟨b1, 0, none⟩ = some (.func (.func gR) #[] lbR) := pw_cell_below (hW.trans ((below_alloc (Below.refl _ _) _).mono hzw)) h1
  gi_wp2
  obtain ⟨W1, hW1⟩ : ∃ W1, W.alloc (.cells #[.func (.yield l) #[] #[]] 102) = W1 := ⟨_, rfl⟩
  have hbW1 : Below W.heap.size W W1 := by rw [← hW1]; exact below_alloc (Below.refl _ _) _
  have hszW1 : W1.heap.size = W.heap.size + 1 := by rw [← hW1]; simp
  have hx3 : W1.heap[W.heap.size]? = some (.cells #[.func (.yield l) #[] #[]] 102 (0, 0)) := by rw [← hW1]; exact blk_new _ _
  rw [hW1]
  clear hW1 d1
  have hMcW : ∀ i, Mc i → i < W.heap.size := fun i h => (hMc i h).2
  have hbw1 : Below w.heap.size w W1 := hW.trans (hbW1.mono hzw)
  have hz1 : W.heap.size ≤ W1.heap.size := by omega
  refine wpIn_range (gf := gR) (lb := lbR) rfl egR hsR hbw1 (fun A N x vs h => by obtain ⟨Ad, c, rfl, _⟩ := hrR _ _ _ _ h; rfl) hkR
    (fun pre => J3 J Mc (fun _ => False) W W1 (pre.map (fun x => pickS x cs))) (fun c pre Mh A => c = .ret ∧ ∃ y, y <+: xs.map (fun x => pickS x cs) ∧ J3 Jx Mc (fun _ => False) W W1 y Mh A) (fun pre M A B h hk => h.kept hJ hz1 hk) (fun c pre M A B h hk => by obtain ⟨e, y, hy, h⟩ := h; exact ⟨e, y, hy, h.kept hJx hz1 hk⟩)
    (fun i => Mc i ∨ (W.heap.size ≤ i ∧ i < W1.heap.size)) ?hM2 ?h02 (fun x vs a₁ M A => ∃ v, vs = #[v] ∧ a₁ = { tmps := #[.func (.yield l) #[] #[], .pointer (some ⟨b1, 0, none⟩), .pointer (some ⟨b2, 0, none⟩), .pointer (some ⟨W.heap.size, 0, none⟩), v, .func (.func gR) #[] lbR, v] ++ Array.replicate 6 undef, defers := [] })
    (fun _ _ _ _ _ _ h _ => h) ?assign2 ?body2 ?done2 ?stop2
  case hM2 => intro i hi; rcases hi with h | h; have := hMc i h; omega; omega
  case h02 => exact ⟨Mc, hJ _ _ _ _ h0 (Kpt.of_new _ hbW1), fun i => Iff.rfl, fun i hi => ⟨.inl hi, by have := hMc i hi; omega⟩, Kpt.refl _ _⟩
  case assign2 =>
    intro l2 pre x vs N A M hI hpre hrd hM hN
    obtain ⟨Ad, c, rfl, hle, hC⟩ := hrR _ _ _ _ hrd
    gi_wp2
    refine ⟨M, fun i hi => ⟨.inl hi, (hM i hi).2⟩, Kpt.refl _ _, hI, _, rfl, ?_⟩
    simp only [List.size_toArray, List.length_cons, List.length_nil, Nat.reduceAdd, Nat.reduceSub, Array.replicate_succ, Array.replicate_zero, List.push_toArray, List.append_toArray, List.nil_append, List.cons_append]
  case body2 =>
    intro l2 pre x vs N A Mh a₁ hI hpre hrd hax hM hN
    obtain ⟨v, rfl, rfl⟩ := hax
    simp only [List.size_toArray, List.length_cons, List.length_nil, Nat.reduceAdd, Nat.reduceSub, Array.replicate_succ, Array.replicate_zero, List.push_toArray, List.append_toArray, List.nil_append, List.cons_append]
    obtain ⟨Ad, c, hvv, hle, hC⟩ := hrR _ _ _ _ hrd
    obtain rfl : v = .slice Ad x.length c := by simpa using hvv
    clear hvv
    have hzA := hI.size
    have hbA : Below w.heap.size w A := hbw1.trans (hI.below (fun i h => (hMc i h).1) (fun _ h => h.elim) hbw1.size)
    have hKA : Kpt (fun i => Mc i ∨ False) W1 A := by obtain ⟨_, _, _, _, h⟩ := hI; exact h
    have hxA : A.heap[W.heap.size]? = some (.cells #[.func (.yield l) #[] #[]] 102 (0, 0)) := hKA.at hx3 (fun h => by rcases h with h | h; have := hMcW _ h; omega; exact h)
    have hlxA := blk_lt hxA
    have hsn : (pre ++ [x]).map (fun x => pickS x cs) = pre.map (fun x => pickS x cs) ++ [pickS x cs] := by simp
    obtain ⟨kp, hkp⟩ := picked_f x cs hcl
    have keep : ∀ V, Kpt (fun i => Mc i ∨ W1.heap.size ≤ i) A V → V.cell? ⟨b2, 0, none⟩ = some (.slice At cs.length ct) ∧ V.cell? ⟨W.heap.size, 0, none⟩ = some (.func (.yield l) #[] #[]) := fun V hV =>
      ⟨pw_cell_below (hbA.trans (hV.below hbA.size (fun i _ h => by rcases h with h | h; exact (hMc i h).1; omega))) h2, blk_cell (hV.at hxA (fun h => by rcases h with h | h; have := hMcW _ h; omega; omega)) 0⟩
    have kb : ∀ V, Below A.heap.size A V → Kpt (fun i => Mc i ∨ W1.heap.size ≤ i) A V := fun V hV => Kpt.of_new _ hV
    gi_wp2
    refine wpIn_region_R 6 (S := fun V => V.cell? ⟨b2, 0, none⟩ = some (.slice At cs.length ct) ∧ V.cell? ⟨W.heap.size, 0, none⟩ = some (.func (.yield l) #[] #[])) (by kernel_rfl) (keep _ (kb _ (below_drew (Below.refl _ _)))) (fun hS0 => ?_)
    refine wpAnyR_take (i := 0) (oi := ⟨some 7, _, _, _, _, _⟩) (v := ?_) (by kernel_rfl) (by kernel_rfl) rfl (by kernel_rfl) (by kernel_rfl) (by kernel_rfl) (fun _ _ _ h => h) (Or.inl ⟨by rfl, ?_⟩) (by assumption) ?_
    rotate_left
    · intro w hSw; (try dsimp only at hSw); (try go_split_ands); go_simp; (try (with_reducible rfl))
    (try simp only [Act.put, List.setIfInBounds_toArray, List.set_cons_zero, List.set_cons_succ])
    refine wpAnyR_take (i := 1) (oi := ⟨some 8, _, _, _, _, _⟩) (v := ?_) (by kernel_rfl) (by kernel_rfl) rfl (by kernel_rfl) (by kernel_rfl) (by kernel_rfl) (fun _ _ _ h => h) (Or.inl ⟨by rfl, ?_⟩) (by assumption) ?_
    rotate_left
    · intro w hSw; (try dsimp only at hSw); (try go_split_ands); go_simp; (try (with_reducible rfl))
    (try simp only [Act.put, List.setIfInBounds_toArray, List.set_cons_zero, List.set_cons_succ])
    refine wpAnyR_take (i := 2) (oi := ⟨some 9, _, _, _, _, _⟩) (v := ?_) (by kernel_rfl) (by kernel_rfl) rfl (by kernel_rfl) (by kernel_rfl) (by kernel_rfl) (fun _ _ _ h => h) (Or.inl ⟨by rfl, ?_⟩) (by assumption) ?_
    rotate_left
    · intro w hSw; (try dsimp only at hSw); (try go_split_ands); go_simp; (try (with_reducible rfl))
    (try simp only [Act.put, List.setIfInBounds_toArray, List.set_cons_zero, List.set_cons_succ])
    refine wpAnyR_one (i := 3) (o := ⟨some 10, _, _, _, _, _⟩) (by kernel_rfl) (by kernel_rfl) rfl (fun K hK => ?_)
    go_simp
    have hbd : Below w.heap.size w A.drew := hbA.trans ((below_drew (Below.refl _ A)).mono hbA.size)
    refine (exec_picked.calls kp Ad c x At ct cs _ A.drew (Kd.C_drew hC) hle (Kd.C_below hts hbd) hct hkp).mono ?_
    rintro e W3 ⟨v3, rfl, hR3, hb3⟩
    have hb3A : Below A.heap.size A W3 := (below_drew (Below.refl _ A)).trans hb3
    have hS3 := keep _ (kb _ hb3A)
    (try dsimp only)
    refine hK.out _ _ (.inr hS3) ?_
    clear hK K
    (try simp only [Act.put, List.setIfInBounds_toArray, List.set_cons_zero, List.set_cons_succ])
    have hpp : (pre ++ [x]).map (fun x => pickS x cs) <+: xs.map (fun x => pickS x cs) := hpre.map _
    rw [hsn] at hpp
    obtain ⟨fn, tmps, assign, body, hy, hRn⟩ := hI.yield hcons hz1 hb3A (Kd.R_lower hR3 (Nat.le_refl _)) hpp
    refine wpAnyR_oneIn (i := 4) (o := ⟨some 11, _, _, _, _, _⟩) (by kernel_rfl) rfl (fun K hK => ?_)
    rw [if_pos (by rfl)]
    refine ⟨fun _ _ => trivial, ?_⟩
    go_simp
    refine ⟨rfl, round_in _ (hRn.mono ?_)⟩
    rintro e W4 ⟨M4, hM4, hk4, hk4', (⟨rfl, hJ4⟩ | ⟨rfl, hJ4⟩)⟩
    · have hS4 := keep _ hk4'
      refine hK.out _ _ (.inr hS4) ?_
      clear hK K
      (try simp only [Act.put, List.setIfInBounds_toArray, List.set_cons_zero, List.set_cons_succ])
      refine wpAnyR_take (i := 5) (oi := ⟨some 12, _, _, _, _, _⟩) (v := ?_) (by kernel_rfl) (by kernel_rfl) rfl (by kernel_rfl) (by kernel_rfl) (by kernel_rfl) (fun _ _ _ h => h) (Or.inl ⟨by rfl, ?_⟩) (by assumption) ?_
      rotate_left
      · intro w hSw; (try dsimp only at hSw); (try go_split_ands); go_simp; (try (with_reducible rfl))
      (try simp only [Act.put, List.setIfInBounds_toArray, List.set_cons_zero, List.set_cons_succ])
      refine wpAnyR_done (by kernel_rfl) ?_ _
      gi_wp2
      refine ⟨M4, fun i hi => ⟨by rcases (hM4 i hi).1 with h | h; exact .inl h; exact .inr (.inr h), (hM4 i hi).2⟩, hk4.mono (fun _ _ h => .inl h), ?_⟩
      show J3 J Mc _ W W1 ((pre ++ [x]).map (fun x => pickS x cs)) M4 W4
      rw [hsn]
      exact hJ4
    · have hS4 := keep _ hk4'
      refine hK.out _ _ (.inr hS4) ?_
      clear hK K
      (try simp only [Act.put, List.setIfInBounds_toArray, List.set_cons_zero, List.set_cons_succ])
      refine wpAnyR_take (i := 5) (oi := ⟨some 12, _, _, _, _, _⟩) (v := ?_) (by kernel_rfl) (by kernel_rfl) rfl (by kernel_rfl) (by kernel_rfl) (by kernel_rfl) (fun _ _ _ h => h) (Or.inl ⟨by rfl, ?_⟩) (by assumption) ?_
      rotate_left
      · intro w hSw; (try dsimp only at hSw); (try go_split_ands); go_simp; (try (with_reducible rfl))
      (try simp only [Act.put, List.setIfInBounds_toArray, List.set_cons_zero, List.set_cons_succ])
      refine wpAnyR_done (by kernel_rfl) ?_ _
      gi_wp2
      refine ⟨M4, fun i hi => ⟨by rcases (hM4 i hi).1 with h | h; exact .inl h; exact .inr (.inr h), (hM4 i hi).2⟩, hk4.mono (fun _ _ h => .inl h), ?_⟩
      exact ⟨rfl, _, hpp, hJ4⟩
  case done2 =>
    intro D2 W3 M3 hI3 hk3 hM3 hD3 hDw3 hDM3
    gi_wp2
    refine ⟨by simp, .inl ⟨_, _, rfl, run_takeDeferred hD3, ?_⟩⟩
    obtain ⟨M4, h41, h42, h43⟩ := hI3.ends hJ hMcW (fun _ h => h.elim) hbW1 (Nat.le_trans hz1 hDw3) (fun _ => hDM3) (o := .deferred none)
    exact ⟨_, results_none rfl _ _ _, ⟨_, rfl⟩, M4, h41, h42, .inl h43⟩
  case stop2 =>
    intro D2 c pre W3 M3 hpre hI3 hk3 hM3 hD3 hDw3 hDM3
    obtain ⟨rfl, y, hy, hI3⟩ := hI3
    gi_wp2
    refine ⟨by simp, .inl ⟨_, _, rfl, run_takeDeferred hD3, ?_⟩⟩
    obtain ⟨M4, h41, h42, h43⟩ := hI3.ends hJx hMcW (fun _ h => h.elim) hbW1 (Nat.le_trans hz1 hDw3) (fun _ => hDM3) (o := .deferred none)
    exact ⟨_, results_none rfl _ _ _, ⟨_, rfl⟩, M4, h41, h42, .inr ⟨y, hy, h43⟩⟩
end Go.Proofs.YtihdlalbgdighaaDoor.QV
/- exec.Filter, exec.Project, exec.Limit as functions. -/
namespace Go.Proofs.YtihdlalbgdighaaDoor.QV
open Go.RowKit Go.Proofs.YtihdlalbgdighaaDoorW.PrintWords Go.Proofs.YtihdlalbgdighaaDoor.Seq Go.Shelf Go.Proofs.YtihdlalbgdighaaDoor.Op
set_option linter.unusedVariables false
set_option maxRecDepth 100000
set_option linter.unusedSimpArgs false
attribute [local go_sem] Oper.semAt_some

theorem infoT : (Tryd.prog.info? 109).map (fun i => (i.zero, i.size, i.bytes)) = some (some (.agg #[.int .i64 0, .int .i64 0, .int .i64 0, .bool false, .int .i64 0, .string ⟨#[]⟩]), 6, 56) := by kernel_rfl
theorem kTm_KM {w W : World} {base : Nat} {ok : Nat → Prop} (x : S109) (cs : List Value) (h : kTm.K w x cs) : kTm.M W base ok x cs := by
  rw [k109_open h]; exact k109_mkM _ _ _ _
set_option maxHeartbeats 1000000 in
theorem clone_terms (A : Option Addr) (l : List S109) (c : Nat) (w : World) (hr : kTm.C w A l.length l) (hc : l.length ≤ c) (hb : l.length * 56 ≤ 140737488355328) :
    Calls Tryd.prog 50 #[.slice A l.length c] w fun e w' => ∃ v, e = .returned v ∧ kTm.R 109 w' w.heap.size (fun _ => True) v l ∧ Below w.heap.size w w' := by
  have hmax := hr.2.1
  cases A with
  | none =>
    have hl : l = [] := by
      cases l with
      | nil => rfl
      | cons x l => obtain ⟨ad, e, _⟩ := hr.2.2 (by simp); cases e
    subst hl
    have hn := Lib.run_eql_slice_nil (P := Tryd.prog)
    go_enter Tryd.func50, Tryd.ntmps50
    go_wp2
    go_ret
    exact ⟨_, rfl, Kd.R_nil _ _ _ _ _, Below.refl _ _⟩
  | some ad =>
    have hn := Lib.run_eql_slice_nil (P := Tryd.prog)
    go_enter Tryd.func50, Tryd.ntmps50
    go_wp2_with (at_builtin; refine Kd.R_append_rows kTm (w0 := w) w.heap.size rfl (.tmp 5) (.tmp 6) 22 109 _ 56 rfl Tryd.underlying22 infoT rfl (by decide) (by decide) (.slice (some ⟨w.heap.size, 0, none⟩) 0 0) [] l (some ad) l.length c (fun _ => True) (fun _ => False) rfl rfl (R_empty' kTm _ _ _ _ (Nat.le_refl _) trivial) (Kd.C_below hr (below_alloc (Below.refl _ _) _)) (fun x cs h => kTm_KM x cs h) (fun _ h => h.elim) (fun _ _ => trivial) (below_alloc (Below.refl _ _) _) (by simp) (by simp; omega) ?_; intro v1 w4 hv1 hB7 hg7 hat7; clear hg7 hat7)
    go_ret
    exact ⟨v1, rfl, by simpa using hv1, hB7⟩
set_option maxHeartbeats 1000000 in
theorem filter_is (xs : List Row) (ts : List S109) (At : Option Addr) (ct : Nat) (sv : Value) (w : World) (hs : IsSeq w sv xs) (hts : kTm.C w At ts.length ts) (hct : ts.length ≤ ct) (hT : Tab w)
    (hb : ∀ x ∈ xs, x.length ≤ 1048576) (hn : ts.length * 56 ≤ 140737488355328) :
    Calls Tryd.prog 25 #[sv, .slice At ts.length ct] w fun e w' => ∃ v, e = .returned v ∧ IsOwn w' v (xs.filter (allS ts)) ∧ Below w.heap.size w w' := by
  obtain ⟨g, lb, Rd, rfl, q⟩ := hs
  have hs : IsSeq w (.func (.func g) #[] lb) xs := ⟨g, lb, Rd, rfl, q⟩
  clear q
  go_enter Tryd.func25, Tryd.ntmps25
  go_wp2_with fail
  have hb1 : Below w.heap.size w (w.alloc (.cells #[.func (.func g) #[] lb] 65)) := below_alloc (Below.refl _ _) _
  have g1 := blk_new w (.cells #[.func (.func g) #[] lb] 65)
  generalize w.alloc (.cells #[.func (.func g) #[] lb] 65) = w1 at hb1 g1 ⊢
  refine (clone_terms At ts ct w1 (Kd.C_below hts hb1) hct (by omega)).mono ?_
  rintro e w2 ⟨v2, rfl, hR2, hb2⟩
  obtain ⟨A2, c2, rfl, hle2, hC2⟩ := Kd.R_reads hR2
  have hB2 := hb1.trans (hb2.mono hb1.size)
  go_wp2_with fail
  go_ret
  obtain ⟨w', hw'⟩ : ∃ w', w2.alloc (.cells #[.slice A2 ts.length c2] 22) = w' := ⟨_, rfl⟩
  rw [hw']
  have hb3 : Below w2.heap.size w2 w' := by rw [← hw']; exact below_alloc (Below.refl _ _) _
  have g2 : w'.heap[w2.heap.size]? = some (.cells #[.slice A2 ts.length c2] 22 (0, 0)) := by rw [← hw']; exact blk_new _ _
  clear hw'
  have hB3 := hB2.trans (hb3.mono hB2.size)
  exact ⟨_, rfl, ⟨_, _, rfl, fun args w => rfl, filter_seq xs ts A2 c2 (.func (.func g) #[] lb) _ _ w' (hs.later hB3) (blk_cell (blk_below (blk_below g1 hb2) hb3) 0) (blk_cell g2 0) (Kd.C_below hC2 hb3) hle2 (hT.below hB3) hb⟩, hB3⟩

set_option maxHeartbeats 1000000 in
theorem project_is (xs : List Row) (cs : List Int) (At : Option Addr) (ct : Nat) (sv : Value) (w : World) (hs : IsSeq w sv xs) (hts : kI.C w At cs.length cs) (hct : cs.length ≤ ct)
    (hcl : cs.length < 3518437208883) :
    Calls Tryd.prog 27 #[sv, .slice At cs.length ct] w fun e w' => ∃ v, e = .returned v ∧ IsOwn w' v (xs.map (fun x => pickS x cs)) ∧ Below w.heap.size w w' := by
  obtain ⟨g, lb, Rd, rfl, q⟩ := hs
  have hs : IsSeq w (.func (.func g) #[] lb) xs := ⟨g, lb, Rd, rfl, q⟩
  clear q
  go_enter Tryd.func27, Tryd.ntmps27
  go_wp2_with fail
  have hb1 : Below w.heap.size w (w.alloc (.cells #[.func (.func g) #[] lb] 65)) := below_alloc (Below.refl _ _) _
  have g1 := blk_new w (.cells #[.func (.func g) #[] lb] 65)
  generalize w.alloc (.cells #[.func (.func g) #[] lb] 65) = w1 at hb1 g1 ⊢
  refine (clone_ints At cs ct w1 (Kd.C_below hts hb1) hct (by omega)).mono ?_
  rintro e w2 ⟨v2, rfl, hR2, hb2⟩
  obtain ⟨A2, c2, rfl, hle2, hC2⟩ := Kd.R_reads hR2
  have hB2 := hb1.trans (hb2.mono hb1.size)
  go_wp2_with fail
  go_ret
  obtain ⟨w', hw'⟩ : ∃ w', w2.alloc (.cells #[.slice A2 cs.length c2] 23) = w' := ⟨_, rfl⟩
  rw [hw']
  have hb3 : Below w2.heap.size w2 w' := by rw [← hw']; exact below_alloc (Below.refl _ _) _
  have g2 : w'.heap[w2.heap.size]? = some (.cells #[.slice A2 cs.length c2] 23 (0, 0)) := by rw [← hw']; exact blk_new _ _
  clear hw'
  have hB3 := hB2.trans (hb3.mono hB2.size)
  exact ⟨_, rfl, ⟨_, _, rfl, fun args w => rfl, project_seq xs cs A2 c2 (.func (.func g) #[] lb) _ _ w' (hs.later hB3) (blk_cell (blk_below (blk_below g1 hb2) hb3) 0) (blk_cell g2 0) (Kd.C_below hC2 hb3) hle2 (by omega)⟩, hB3⟩

end Go.Proofs.YtihdlalbgdighaaDoor.QV
