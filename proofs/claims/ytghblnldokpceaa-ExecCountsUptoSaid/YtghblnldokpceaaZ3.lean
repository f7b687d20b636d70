/- The parts LCounts of this proof, one behind the other. -/
import Derived.Test.YtghblnldokpceaaZ2
/- ExecCounts: the walk. -/
namespace Go.Proofs.Ytghblnldokpceaa.QV
open Go.RowKit Go.Proofs.YtghblnldokpceaaW.PrintWords Go.Proofs.Ytghblnldokpceaa.SeqW Go.Shelf Go.Proofs.Ytghblnldokpceaa.Op Go.Proofs.Ytghblnldokpceaa.Stab
set_option linter.unusedVariables false
set_option linter.unusedSimpArgs false
attribute [local go_sem] Oper.semAt_some

theorem btrC {a b c : World} (h : Below a.heap.size a b) (k : Below b.heap.size b c) : Below a.heap.size a c := h.trans (k.mono h.size)
theorem kRows_atC {w : World} {A : Option Addr} {xs : List Row} (h : kRows.C w A xs.length xs) (i : Nat) (hi : i < xs.length) : ∃ ad Ax cx, A = some ad ∧ w.cell? (ad.add i) = some (.slice Ax (xs.getD i []).length cx) ∧ (xs.getD i []).length ≤ cx ∧ kS.C w Ax (xs.getD i []).length (xs.getD i []) := by
  obtain ⟨ad, cs, e, _, ⟨Ad, cp, rfl, hle, hC⟩, hcs⟩ := Kd.C_get h [] i (by omega) (by omega)
  rw [Int.toNat_natCast] at hle hC hcs
  have hsz : kRows.sz = 1 := rfl
  have hc0 := hcs 0 _ rfl
  rw [hsz, Nat.mul_one, Nat.add_zero] at hc0
  exact ⟨ad, Ad, cp, e, hc0, hle, hC⟩
def cntRow (g : Grp) : Row := g.1 ++ [numV g.2.length]
theorem counts_rows (by' : List Int) (rows : List Row) : groupL by' [⟨0, 0⟩] rows = (groupsL by' rows).map cntRow := by
  unfold groupL
  refine List.map_congr_left (fun g _ => ?_)
  show g.1 ++ [toldS ⟨0, 0⟩ g.2] = g.1 ++ [numV g.2.length]
  unfold toldS
  rw [if_pos rfl]
def sumG (G : List Grp) : Nat := (G.map (fun g => g.2.length)).sum
theorem addG_sum : ∀ (G : List Grp) (k r : Row), sumG (addG G k r) = sumG G + 1
  | [], k, r => rfl
  | g :: G, k, r => by
    rw [addG]
    split
    · have := addG_sum G k r
      simp only [sumG, List.map_cons, List.sum_cons] at this ⊢
      omega
    · split <;> simp [sumG] <;> omega
theorem groupsL_sum (by' : List Int) (rows : List Row) : sumG (groupsL by' rows) = rows.length := by
  have gen : ∀ (l : List Row) (G : List Grp), sumG (l.foldl (fun G r => addG G (pickS r by') r) G) = sumG G + l.length := by
    intro l
    induction l with
    | nil => intro G; simp
    | cons r l ih => intro G; rw [List.foldl_cons, ih, addG_sum]; simp; omega
  have h0 : sumG (startG by') = 0 := by unfold startG; split <;> simp [sumG]
  unfold groupsL
  rw [gen, h0]; omega
theorem sumG_take (G : List Grp) (i : Nat) (hi : i < G.length) : sumG (G.take (i + 1)) = sumG (G.take i) + (G.getD i ([], [])).2.length := by
  rw [← take_snoc' ([], []) G i hi]; simp [sumG]
theorem sumG_le (G : List Grp) (i : Nat) : sumG (G.take i) ≤ sumG G := by
  have : sumG G = sumG (G.take i) + sumG (G.drop i) := by
    unfold sumG
    rw [← List.sum_append, ← List.map_append, List.take_append_drop]
  omega
theorem nil_groups (rows : List Row) : (groupsL [] rows).length = 1 := by
  have gen : ∀ (l : List Row) (g : Grp), g.1 = [] → (l.foldl (fun G r => addG G (pickS r []) r) [g]).length = 1 := by
    intro l
    induction l with
    | nil => intro g _; rfl
    | cons r l ih =>
      intro g hg
      rw [List.foldl_cons]
      have hz : ordK g.1 (pickS r []) = 0 := by rw [hg]; simp [ordK, pickS, rowsV]
      have : addG [g] (pickS r []) r = [(g.1, g.2 ++ [r])] := by rw [addG, if_neg (by omega), if_pos hz]
      rw [this]
      exact ih _ hg
  exact gen rows ([], []) rfl
set_option maxRecDepth 100000 in
set_option maxHeartbeats 8000000 in
theorem walkCounts (A0 : Option Addr) (c0 : Nat) (x0 : List Row) (A1 : Option Addr) (c1 : Nat) (x1 : List Int) (w : World) (H0 : kRows.C w A0 x0.length x0) (C0 : x0.length ≤ c0) (H1 : kI.C w A1 x1.length x1) (C1 : x1.length ≤ c1)
    (hL : ∀ x ∈ x0, x.length ≤ 1048576) (n0 : x0.length ≤ 1048576) (n1 : x1.length ≤ 1048576) :
    Calls Try.prog 6 #[.slice A0 x0.length c0, .slice A1 x1.length c1] w fun e w' => e = .returned (.bool true) ∧ Below w.heap.size w w' := by
  obtain ⟨k0, hk0⟩ := copied_f x0 (by omega) (fun x hx => by have := hL x hx; omega)
  have hcr := counts_rows x1 x0
  have hgl := groupsL_len x1 x0
  have hkl := groupsL_klen x1 x0
  have hsum := groupsL_sum x1 x0
  have hrise := (groupsL_inv x1 x0).rise
  have hnil : x1.length = 0 → (groupsL x1 x0).length = 1 := fun h => by
    have : x1 = [] := List.eq_nil_of_length_eq_zero h
    rw [this]; exact nil_groups x0
  generalize groupsL x1 x0 = G at *
  obtain ⟨GL, hGL⟩ : ∃ GL, G.map cntRow = GL := ⟨_, rfl⟩
  rw [hGL] at hcr
  have hGl : GL.length = G.length := by rw [← hGL, List.length_map]
  have hrow : ∀ i, i < GL.length → GL.getD i [] = cntRow (G.getD i ([], [])) := fun i hi => by
    rw [← hGL, List.getD_eq_getElem?_getD, List.getD_eq_getElem?_getD, List.getElem?_map, List.getElem?_eq_getElem (by omega)]
    rfl
  have hlen : ∀ x ∈ GL, x.length ≤ 1048577 := fun x hx => by
    rw [← hGL] at hx
    obtain ⟨g, hg, rfl⟩ := List.mem_map.1 hx
    unfold cntRow
    rw [List.length_append, hkl g hg]
    simp; omega
  have HGL := Lib.hid (And.intro hGL hGl)
  have hgb : GL.length ≤ 1048577 := by omega
  have hsb : ∀ i, sumG (G.take i) ≤ 1048576 := fun i => by have := sumG_le G i; omega
  have HSB := Lib.hid hsb
  have HROW := Lib.hid hrow
  have HKL := Lib.hid hkl
  have HSUM := Lib.hid hsum
  have HNIL := Lib.hid hnil
  have HRISE := Lib.hid hrise
  clear hGL hGl hrow hkl hsb hgl hsum hnil hrise
  go_enter Try.func6, Try.ntmps6
  go_wp2_with fail
  refine (hayloftlaw15_copied.calls k0 A0 c0 x0 x0 w H0 C0 hk0).mono ?_
  rintro e w2 ⟨v2, rfl, hS2, hb2⟩
  obtain ⟨B2, m2, rfl, hle2, hC2⟩ := Kd.S_reads hS2
  go_wp2_with fail
  refine (values_is B2 x0 m2 w2 hC2).mono ?_
  rintro e w4 ⟨v4, rfl, hs4, hb4⟩
  obtain ⟨f4, l4, rfl⟩ := hs4.form
  have hB4 := btrC hb2 hb4
  go_wp2_with fail
  obtain ⟨w5, hw5⟩ : ∃ w5, w4.alloc (.cells #[.int .i64 0, .int .i64 0] 48) = w5 := ⟨_, rfl⟩
  rw [hw5]
  have hb5 : Below w4.heap.size w4 w5 := by rw [← hw5]; exact below_alloc (Below.refl _ _) _
  have g5 : w5.heap[w4.heap.size]? = some (.cells #[.int .i64 0, .int .i64 0] 48 (0, 0)) := by rw [← hw5]; exact blk_new _ _
  clear hw5
  have hB5 := btrC hB4 hb5
  have hag := C_one kA w5 w4.heap.size ⟨0, 0⟩ _ (k48_mk w5 ⟨0, 0⟩) (fun i u hu => by rw [blk_cell g5 i]; simpa using hu)
  have hgi := group_is x0 x1 [⟨0, 0⟩] A1 c1 (some ⟨w4.heap.size, 0, none⟩) 1 _ w5 (hs4.later hb5) (Kd.C_below H1 hB5) C1 hag (Nat.le_refl _) hL n0 n1 (by simp)
  rw [hcr] at hgi
  refine hgi.mono ?_
  rintro e w6 ⟨v6, rfl, hs6, hb6⟩
  obtain ⟨f6, l6, rfl⟩ := hs6.seq.form
  have hB6 := btrC hB5 hb6
  clear hgi hag
  go_wp2_with fail
  refine (all_is _ GL w6 w6 hs6 (Below.refl _ _) (fun x hx => by have := hlen x hx; omega) (by omega)).mono ?_
  rintro e w7 ⟨v7, rfl, hS7, hb7⟩
  obtain ⟨B7, m7, rfl, hle7, hC7⟩ := Kd.S_reads hS7
  have hB7 := btrC hB6 hb7
  clear hS7 hS2 hs6 hs4 hC2
  go_wp2_with fail
  go_loopw [6, 18] (fun nv iv wr => ∃ (i : Nat), iv = .int .i64 (i : Int) ∧ i ≤ GL.length ∧ nv = .int .i64 (sumG (G.take i) : Int) ∧ Below w7.heap.size w7 wr) (fun _ iv _ => GL.length - (intOf iv).toNat)
  case atStart => exact ⟨0, rfl, Nat.zero_le _, rfl, Below.refl _ _⟩
  case round =>
    obtain ⟨i, rfl, hi, rfl, hB⟩ := hrel
    have hbw : Below w.heap.size w wr := btrC hB7 hB
    by_cases hlt : i < GL.length
    · have hltz : (i : Int) < (GL.length : Int) := by omega
      obtain ⟨ad, Ax, cx, rfl, hxc, hxle, hxC⟩ := kRows_atC (Kd.C_below hC7 hB) i hlt
      have hGi : i < G.length := by rw [← HGL.out.2]; exact hlt
      have hst := sumG_take G i hGi
      have hs1 := HSB.out (i + 1)
      rw [HROW.out i hlt] at hxc hxle hxC
      have hgk := HKL.out _ (getD_mem ([], []) hGi)
      obtain ⟨g, hg⟩ : ∃ g, G.getD i ([], []) = g := ⟨_, rfl⟩
      rw [hg] at hxc hxle hxC hst hgk
      obtain ⟨key, gr⟩ := g
      simp only [cntRow] at hxc hxle hxC hst hgk
      obtain ⟨cn, hcn⟩ : ∃ cn, gr.length = cn := ⟨_, rfl⟩
      rw [hcn] at hxc hxle hxC hst
      clear hcn
      have hxl : (key ++ [numV cn]).length = x1.length + 1 := by rw [List.length_append, hgk]; rfl
      obtain ⟨xd, hxd, e0, _, e2, _⟩ := kS_atV hxC x1.length (by rw [hxl]; omega)
      have hgd : (key ++ [numV cn]).getD x1.length zV = numV cn := by rw [← hgk, List.getD_eq_getElem?_getD, List.getElem?_append_right (Nat.le_refl _), Nat.sub_self]; rfl
      rw [hgd] at e0 e2
      have hkC : kS.C wr Ax x1.length key := by
        have h := Kd.C_take (m := x1.length) hxC (by rw [hxl]; omega)
        rw [← hgk, List.take_left] at h
        rw [← hgk]; exact h
      rw [hxl] at hxc hxle
      clear hxC hgd
      subst hxd
      have e0' : wr.cell? (xd.add (x1.length * 4)) = some (.int .i64 2) := e0
      have e2' : wr.cell? ⟨(xd.add (x1.length * 4)).block, (xd.add (x1.length * 4)).off + 2, none⟩ = some (.int .i64 (cn : Int)) := e2
      clear e0 e2
      obtain ⟨s, hs⟩ : ∃ s, sumG (G.take i) = s := ⟨_, rfl⟩
      rw [hs] at hst ⊢
      have HST := Lib.hid hst
      clear hst hs
      have hxn : (x1.length : Int) < ((x1.length + 1 : Nat) : Int) := by omega
      have hwn : IntKind.i64.wrap ((x1.length : Int) + 1) = (x1.length : Int) + 1 := by rw [IntKind.wrap_i64]; omega
      have rnd : ∀ V : World, Below wr.heap.size wr V → ∃ k : Nat, Value.int .i64 ((i : Int) + 1) = .int .i64 (k : Int) ∧ k ≤ GL.length ∧ Value.int .i64 ((s : Int) + (cn : Int)) = .int .i64 (sumG (G.take k) : Int) ∧ Below w7.heap.size w7 V := fun V hV =>
        ⟨i + 1, by go_num, by omega, by rw [HST.out]; go_num, hB.trans (hV.mono hB.size)⟩
      have RND := Lib.hid rnd
      clear rnd
      have hscn : s + cn ≤ 1048576 := by rw [← HST.out]; exact hs1
      clear hs1
      by_cases hi0 : i = 0
      · subst hi0
        have hxc0 : wr.cell? ad = some (.slice (some xd) (x1.length + 1) cx) := by
          rwa [show ad.add 0 = ad by cases ad; simp [Addr.add]] at hxc
        go_wp2_with fail
        refine (wpIn_wide (n := 0)).1 ?_
        refine wpIn_region_R (l := 0) 99 (S := fun V => True) (by kernel_rfl) trivial (fun hS0 => ?_)
        refine wpAnyR_take (i := 0) (oi := ⟨some 53, _, _, _, _, _⟩) (v := ?_) (by kernel_rfl) (by kernel_rfl) rfl (by kernel_rfl) (by kernel_rfl) (by kernel_rfl) (fun _ _ _ h => h) (Or.inl ⟨by rfl, ?_⟩) (by assumption) ?_
        rotate_left
        · intro w hSw; (try dsimp only at hSw); (try go_split_ands); go_simp; (try (with_reducible rfl))
        (try simp only [Act.put, List.setIfInBounds_toArray, List.set_cons_zero, List.set_cons_succ])
        refine wpAnyR_take (i := 1) (oi := ⟨some 54, _, _, _, _, _⟩) (v := ?_) (by kernel_rfl) (by kernel_rfl) rfl (by kernel_rfl) (by kernel_rfl) (by kernel_rfl) (fun _ _ _ h => h) (Or.inl ⟨by rfl, ?_⟩) (by assumption) ?_
        rotate_left
        · intro w hSw; (try dsimp only at hSw); (try go_split_ands); go_simp; (try (with_reducible rfl))
        (try simp only [Act.put, List.setIfInBounds_toArray, List.set_cons_zero, List.set_cons_succ])
        refine wpAnyR_take (i := 2) (oi := ⟨some 55, _, _, _, _, _⟩) (v := ?_) (by kernel_rfl) (by kernel_rfl) rfl (by kernel_rfl) (by kernel_rfl) (by kernel_rfl) (fun _ _ _ h => h) (Or.inl ⟨by rfl, ?_⟩) (by assumption) ?_
        rotate_left
        · intro w hSw; (try dsimp only at hSw); (try go_split_ands); go_simp; (try (with_reducible rfl))
        (try simp only [Act.put, List.setIfInBounds_toArray, List.set_cons_zero, List.set_cons_succ])
        refine wpAnyR_take (i := 3) (oi := ⟨some 56, _, _, _, _, _⟩) (v := undef) (by kernel_rfl) (by kernel_rfl) rfl (by kernel_rfl) (by kernel_rfl) (by kernel_rfl) (fun _ _ _ h => h) (Or.inr ⟨by rfl, rfl⟩) (by assumption) ?_
        (try simp only [Act.put, List.setIfInBounds_toArray, List.set_cons_zero, List.set_cons_succ])
        refine wpAnyR_take (i := 4) (oi := ⟨some 57, _, _, _, _, _⟩) (v := undef) (by kernel_rfl) (by kernel_rfl) rfl (by kernel_rfl) (by kernel_rfl) (by kernel_rfl) (fun _ _ _ h => h) (Or.inr ⟨by rfl, rfl⟩) (by assumption) ?_
        (try simp only [Act.put, List.setIfInBounds_toArray, List.set_cons_zero, List.set_cons_succ])
        refine wpAnyR_take (i := 5) (oi := ⟨some 58, _, _, _, _, _⟩) (v := undef) (by kernel_rfl) (by kernel_rfl) rfl (by kernel_rfl) (by kernel_rfl) (by kernel_rfl) (fun _ _ _ h => h) (Or.inr ⟨by rfl, rfl⟩) (by assumption) ?_
        (try simp only [Act.put, List.setIfInBounds_toArray, List.set_cons_zero, List.set_cons_succ])
        refine wpAnyR_take (i := 6) (oi := ⟨some 59, _, _, _, _, _⟩) (v := undef) (by kernel_rfl) (by kernel_rfl) rfl (by kernel_rfl) (by kernel_rfl) (by kernel_rfl) (fun _ _ _ h => h) (Or.inr ⟨by rfl, rfl⟩) (by assumption) ?_
        (try simp only [Act.put, List.setIfInBounds_toArray, List.set_cons_zero, List.set_cons_succ])
        refine wpAnyR_take (i := 7) (oi := ⟨some 60, _, _, _, _, _⟩) (v := undef) (by kernel_rfl) (by kernel_rfl) rfl (by kernel_rfl) (by kernel_rfl) (by kernel_rfl) (fun _ _ _ h => h) (Or.inr ⟨by rfl, rfl⟩) (by assumption) ?_
        (try simp only [Act.put, List.setIfInBounds_toArray, List.set_cons_zero, List.set_cons_succ])
        refine wpAnyR_take (i := 8) (oi := ⟨some 61, _, _, _, _, _⟩) (v := undef) (by kernel_rfl) (by kernel_rfl) rfl (by kernel_rfl) (by kernel_rfl) (by kernel_rfl) (fun _ _ _ h => h) (Or.inr ⟨by rfl, rfl⟩) (by assumption) ?_
        (try simp only [Act.put, List.setIfInBounds_toArray, List.set_cons_zero, List.set_cons_succ])
        refine wpAnyR_take (i := 9) (oi := ⟨some 62, _, _, _, _, _⟩) (v := undef) (by kernel_rfl) (by kernel_rfl) rfl (by kernel_rfl) (by kernel_rfl) (by kernel_rfl) (fun _ _ _ h => h) (Or.inr ⟨by rfl, rfl⟩) (by assumption) ?_
        (try simp only [Act.put, List.setIfInBounds_toArray, List.set_cons_zero, List.set_cons_succ])
        refine wpAnyR_take (i := 10) (oi := ⟨some 63, _, _, _, _, _⟩) (v := undef) (by kernel_rfl) (by kernel_rfl) rfl (by kernel_rfl) (by kernel_rfl) (by kernel_rfl) (fun _ _ _ h => h) (Or.inr ⟨by rfl, rfl⟩) (by assumption) ?_
        (try simp only [Act.put, List.setIfInBounds_toArray, List.set_cons_zero, List.set_cons_succ])
        refine wpAnyR_take (i := 11) (oi := ⟨some 64, _, _, _, _, _⟩) (v := undef) (by kernel_rfl) (by kernel_rfl) rfl (by kernel_rfl) (by kernel_rfl) (by kernel_rfl) (fun _ _ _ h => h) (Or.inr ⟨by rfl, rfl⟩) (by assumption) ?_
        (try simp only [Act.put, List.setIfInBounds_toArray, List.set_cons_zero, List.set_cons_succ])
        refine wpAnyR_take (i := 12) (oi := ⟨some 65, _, _, _, _, _⟩) (v := undef) (by kernel_rfl) (by kernel_rfl) rfl (by kernel_rfl) (by kernel_rfl) (by kernel_rfl) (fun _ _ _ h => h) (Or.inr ⟨by rfl, rfl⟩) (by assumption) ?_
        (try simp only [Act.put, List.setIfInBounds_toArray, List.set_cons_zero, List.set_cons_succ])
        refine wpAnyR_take (i := 13) (oi := ⟨some 66, _, _, _, _, _⟩) (v := undef) (by kernel_rfl) (by kernel_rfl) rfl (by kernel_rfl) (by kernel_rfl) (by kernel_rfl) (fun _ _ _ h => h) (Or.inr ⟨by rfl, rfl⟩) (by assumption) ?_
        (try simp only [Act.put, List.setIfInBounds_toArray, List.set_cons_zero, List.set_cons_succ])
        refine wpAnyR_take (i := 14) (oi := ⟨some 67, _, _, _, _, _⟩) (v := undef) (by kernel_rfl) (by kernel_rfl) rfl (by kernel_rfl) (by kernel_rfl) (by kernel_rfl) (fun _ _ _ h => h) (Or.inr ⟨by rfl, rfl⟩) (by assumption) ?_
        (try simp only [Act.put, List.setIfInBounds_toArray, List.set_cons_zero, List.set_cons_succ])
        refine wpAnyR_take (i := 15) (oi := ⟨some 68, _, _, _, _, _⟩) (v := undef) (by kernel_rfl) (by kernel_rfl) rfl (by kernel_rfl) (by kernel_rfl) (by kernel_rfl) (fun _ _ _ h => h) (Or.inr ⟨by rfl, rfl⟩) (by assumption) ?_
        (try simp only [Act.put, List.setIfInBounds_toArray, List.set_cons_zero, List.set_cons_succ])
        refine wpAnyR_take (i := 16) (oi := ⟨some 69, _, _, _, _, _⟩) (v := undef) (by kernel_rfl) (by kernel_rfl) rfl (by kernel_rfl) (by kernel_rfl) (by kernel_rfl) (fun _ _ _ h => h) (Or.inr ⟨by rfl, rfl⟩) (by assumption) ?_
        (try simp only [Act.put, List.setIfInBounds_toArray, List.set_cons_zero, List.set_cons_succ])
        refine wpAnyR_take (i := 17) (oi := ⟨some 70, _, _, _, _, _⟩) (v := undef) (by kernel_rfl) (by kernel_rfl) rfl (by kernel_rfl) (by kernel_rfl) (by kernel_rfl) (fun _ _ _ h => h) (Or.inr ⟨by rfl, rfl⟩) (by assumption) ?_
        (try simp only [Act.put, List.setIfInBounds_toArray, List.set_cons_zero, List.set_cons_succ])
        refine wpAnyR_take (i := 18) (oi := ⟨some 71, _, _, _, _, _⟩) (v := undef) (by kernel_rfl) (by kernel_rfl) rfl (by kernel_rfl) (by kernel_rfl) (by kernel_rfl) (fun _ _ _ h => h) (Or.inr ⟨by rfl, rfl⟩) (by assumption) ?_
        (try simp only [Act.put, List.setIfInBounds_toArray, List.set_cons_zero, List.set_cons_succ])
        refine wpAnyR_take (i := 19) (oi := ⟨some 72, _, _, _, _, _⟩) (v := undef) (by kernel_rfl) (by kernel_rfl) rfl (by kernel_rfl) (by kernel_rfl) (by kernel_rfl) (fun _ _ _ h => h) (Or.inr ⟨by rfl, rfl⟩) (by assumption) ?_
        (try simp only [Act.put, List.setIfInBounds_toArray, List.set_cons_zero, List.set_cons_succ])
        refine wpAnyR_take (i := 20) (oi := ⟨some 73, _, _, _, _, _⟩) (v := ?_) (by kernel_rfl) (by kernel_rfl) rfl (by kernel_rfl) (by kernel_rfl) (by kernel_rfl) (fun _ _ _ h => h) (Or.inl ⟨by rfl, ?_⟩) (by assumption) ?_
        rotate_left
        · intro w hSw; (try dsimp only at hSw); (try go_split_ands); go_simp; (try (with_reducible rfl))
        (try simp only [Act.put, List.setIfInBounds_toArray, List.set_cons_zero, List.set_cons_succ])
        refine wpAnyR_done (by kernel_rfl) ?_ _
        go_wp2_with fail
        go_roundw
        case rel => exact RND.out _ (below_drew (Below.refl _ _))
        case measure => simp [intOf]; omega
      · obtain ⟨j, hij⟩ : ∃ j, i = j + 1 := ⟨i - 1, by omega⟩
        have hi0z : (0 : Int) < (i : Int) := by omega
        have hji : (i : Int) - 1 = (j : Int) := by omega
        have hwj : IntKind.i64.wrap (j : Int) = (j : Int) := by rw [IntKind.wrap_i64]; omega
        have hj0 : (0 : Int) ≤ (j : Int) := by omega
        have hcx : x1.length ≤ cx := by omega
        have hjz : (j : Int) < (GL.length : Int) := by omega
        obtain ⟨ad', Ay, cy, hyd, hyc, hyle, hyC⟩ := kRows_atC (Kd.C_below hC7 hB) j (by omega)
        injection hyd with hyd
        subst hyd
        have hGj : j < G.length := by rw [← HGL.out.2]; omega
        rw [HROW.out j (by omega)] at hyc hyle hyC
        have hgj := HKL.out _ (getD_mem ([], []) hGj)
        have hri : ordK (G.getD j ([], [])).1 key < 0 := by
          have h := HRISE.out
          unfold RiseK at h
          rw [List.pairwise_map] at h
          have h2 := List.pairwise_iff_getElem.1 h j i hGj hGi (by omega)
          have e1 : G.getD j ([], []) = G[j] := by rw [List.getD_eq_getElem?_getD, List.getElem?_eq_getElem hGj]; rfl
          have e2 : G[i] = (key, gr) := by rw [← hg, List.getD_eq_getElem?_getD, List.getElem?_eq_getElem hGi]; rfl
          rw [e1]
          rw [e2] at h2
          exact h2
        obtain ⟨gj, hgje⟩ : ∃ gj, G.getD j ([], []) = gj := ⟨_, rfl⟩
        rw [hgje] at hyc hyle hyC hgj hri
        obtain ⟨keyj, grj⟩ := gj
        simp only [cntRow] at hyc hyle hyC hgj hri
        have hyl : (keyj ++ [numV grj.length]).length = x1.length + 1 := by rw [List.length_append, hgj]; rfl
        have hkjC : kS.C wr Ay x1.length keyj := by
          have h := Kd.C_take (m := x1.length) hyC (by rw [hyl]; omega)
          rw [← hgj, List.take_left] at h
          rw [← hgj]; exact h
        rw [hyl] at hyc hyle
        have hcy : x1.length ≤ cy := by omega
        clear hyC hyl hgje
        obtain ⟨q, hq⟩ : ∃ q, ordK keyj key = q := ⟨_, rfl⟩
        rw [hq] at hri
        have hqd : decide (q ≥ 0) = false := decide_eq_false (by omega)
        have hrw := fun V (hV : Below wr.heap.size wr V) => hayloftref02_Rows.calls Ay cy keyj (some xd) cx key q V (by rw [hgj]; exact Kd.C_below hkjC hV) (by omega) (by rw [hgk]; exact Kd.C_below hkC hV) (by omega) (by rw [← hq]; rfl)
        rw [hgj, hgk] at hrw
        have HRW := Lib.hid hrw
        have HIJ := Lib.hid hij
        clear hij
        clear hrw hq hgj hgk hg
        have S0 : ∀ V : World, Below wr.heap.size wr V → V.cell? (ad.add j) = some (.slice Ay (x1.length + 1) cy) ∧ V.cell? (ad.add i) = some (.slice (some xd) (x1.length + 1) cx) := fun V hV => ⟨pw_cell_below hV hyc, pw_cell_below hV hxc⟩
        go_wp2_with fail
        refine (wpIn_wide (n := 0)).1 ?_
        refine wpIn_region_R (l := 0) 99 (S := fun V => V.cell? (ad.add j) = some (.slice Ay (x1.length + 1) cy) ∧ V.cell? (ad.add i) = some (.slice (some xd) (x1.length + 1) cx)) (by kernel_rfl) (S0 _ (below_drew (Below.refl _ _))) (fun hS0 => ?_)
        refine wpAnyR_take (i := 0) (oi := ⟨some 53, _, _, _, _, _⟩) (v := ?_) (by kernel_rfl) (by kernel_rfl) rfl (by kernel_rfl) (by kernel_rfl) (by kernel_rfl) (fun _ _ _ h => h) (Or.inl ⟨by rfl, ?_⟩) (by assumption) ?_
        rotate_left
        · intro w hSw; (try dsimp only at hSw); (try go_split_ands); go_simp; (try (with_reducible rfl))
        (try simp only [Act.put, List.setIfInBounds_toArray, List.set_cons_zero, List.set_cons_succ])
        refine wpAnyR_take (i := 1) (oi := ⟨some 54, _, _, _, _, _⟩) (v := .bool true) (by kernel_rfl) (by kernel_rfl) rfl (by kernel_rfl) (by kernel_rfl) (by kernel_rfl) (fun _ _ _ h => h) (Or.inl ⟨by rfl, ?_⟩) (by assumption) ?_
        · intro w hSw; go_simp; (try simp [hi0z]); (try omega)
        (try simp only [Act.put, List.setIfInBounds_toArray, List.set_cons_zero, List.set_cons_succ])
        refine wpAnyR_take (i := 2) (oi := ⟨some 55, _, _, _, _, _⟩) (v := ?_) (by kernel_rfl) (by kernel_rfl) rfl (by kernel_rfl) (by kernel_rfl) (by kernel_rfl) (fun _ _ _ h => h) (Or.inl ⟨by rfl, ?_⟩) (by assumption) ?_
        rotate_left
        · intro w hSw; (try dsimp only at hSw); (try go_split_ands); go_simp; (try (with_reducible rfl))
        (try simp only [Act.put, List.setIfInBounds_toArray, List.set_cons_zero, List.set_cons_succ])
        refine wpAnyR_take (i := 3) (oi := ⟨some 56, _, _, _, _, _⟩) (v := ?_) (by kernel_rfl) (by kernel_rfl) rfl (by kernel_rfl) (by kernel_rfl) (by kernel_rfl) (fun _ _ _ h => h) (Or.inl ⟨by rfl, ?_⟩) (by assumption) ?_
        rotate_left
        · intro w hSw; (try dsimp only at hSw); (try go_split_ands); go_simp; (try (with_reducible rfl))
        (try simp only [Act.put, List.setIfInBounds_toArray, List.set_cons_zero, List.set_cons_succ])
        refine wpAnyR_take (i := 4) (oi := ⟨some 57, _, _, _, _, _⟩) (v := ?_) (by kernel_rfl) (by kernel_rfl) rfl (by kernel_rfl) (by kernel_rfl) (by kernel_rfl) (fun _ _ _ h => h) (Or.inl ⟨by rfl, ?_⟩) (by assumption) ?_
        rotate_left
        · intro w hSw; (try dsimp only at hSw); (try go_split_ands); go_simp; (try (with_reducible rfl))
        (try simp only [Act.put, List.setIfInBounds_toArray, List.set_cons_zero, List.set_cons_succ])
        refine wpAnyR_take (i := 5) (oi := ⟨some 58, _, _, _, _, _⟩) (v := ?_) (by kernel_rfl) (by kernel_rfl) rfl (by kernel_rfl) (by kernel_rfl) (by kernel_rfl) (fun _ _ _ h => h) (Or.inl ⟨by rfl, ?_⟩) (by assumption) ?_
        rotate_left
        · intro w hSw; (try dsimp only at hSw); (try go_split_ands); go_simp; (try (with_reducible rfl))
        (try simp only [Act.put, List.setIfInBounds_toArray, List.set_cons_zero, List.set_cons_succ])
        refine wpAnyR_take (i := 6) (oi := ⟨some 59, _, _, _, _, _⟩) (v := ?_) (by kernel_rfl) (by kernel_rfl) rfl (by kernel_rfl) (by kernel_rfl) (by kernel_rfl) (fun _ _ _ h => h) (Or.inl ⟨by rfl, ?_⟩) (by assumption) ?_
        rotate_left
        · intro w hSw; (try dsimp only at hSw); (try go_split_ands); go_simp; (try (with_reducible rfl))
        (try simp only [Act.put, List.setIfInBounds_toArray, List.set_cons_zero, List.set_cons_succ])
        refine wpAnyR_take (i := 7) (oi := ⟨some 60, _, _, _, _, _⟩) (v := ?_) (by kernel_rfl) (by kernel_rfl) rfl (by kernel_rfl) (by kernel_rfl) (by kernel_rfl) (fun _ _ _ h => h) (Or.inl ⟨by rfl, ?_⟩) (by assumption) ?_
        rotate_left
        · intro w hSw; (try dsimp only at hSw); (try go_split_ands); go_simp; (try (with_reducible rfl))
        (try simp only [Act.put, List.setIfInBounds_toArray, List.set_cons_zero, List.set_cons_succ])
        refine wpAnyR_take (i := 8) (oi := ⟨some 61, _, _, _, _, _⟩) (v := ?_) (by kernel_rfl) (by kernel_rfl) rfl (by kernel_rfl) (by kernel_rfl) (by kernel_rfl) (fun _ _ _ h => h) (Or.inl ⟨by rfl, ?_⟩) (by assumption) ?_
        rotate_left
        · intro w hSw; (try dsimp only at hSw); (try go_split_ands); go_simp; (try (with_reducible rfl))
        (try simp only [Act.put, List.setIfInBounds_toArray, List.set_cons_zero, List.set_cons_succ])
        refine wpAnyR_take (i := 9) (oi := ⟨some 62, _, _, _, _, _⟩) (v := ?_) (by kernel_rfl) (by kernel_rfl) rfl (by kernel_rfl) (by kernel_rfl) (by kernel_rfl) (fun _ _ _ h => h) (Or.inl ⟨by rfl, ?_⟩) (by assumption) ?_
        rotate_left
        · intro w hSw; (try dsimp only at hSw); (try go_split_ands); go_simp; (try (with_reducible rfl))
        (try simp only [Act.put, List.setIfInBounds_toArray, List.set_cons_zero, List.set_cons_succ])
        refine wpAnyR_take (i := 10) (oi := ⟨some 63, _, _, _, _, _⟩) (v := ?_) (by kernel_rfl) (by kernel_rfl) rfl (by kernel_rfl) (by kernel_rfl) (by kernel_rfl) (fun _ _ _ h => h) (Or.inl ⟨by rfl, ?_⟩) (by assumption) ?_
        rotate_left
        · intro w hSw; (try dsimp only at hSw); (try go_split_ands); go_simp; (try (with_reducible rfl))
        (try simp only [Act.put, List.setIfInBounds_toArray, List.set_cons_zero, List.set_cons_succ])
        refine wpAnyR_take (i := 11) (oi := ⟨some 64, _, _, _, _, _⟩) (v := ?_) (by kernel_rfl) (by kernel_rfl) rfl (by kernel_rfl) (by kernel_rfl) (by kernel_rfl) (fun _ _ _ h => h) (Or.inl ⟨by rfl, ?_⟩) (by assumption) ?_
        rotate_left
        · intro w hSw; (try dsimp only at hSw); (try go_split_ands); go_simp; (try (with_reducible rfl))
        (try simp only [Act.put, List.setIfInBounds_toArray, List.set_cons_zero, List.set_cons_succ])
        refine wpAnyR_take (i := 12) (oi := ⟨some 65, _, _, _, _, _⟩) (v := ?_) (by kernel_rfl) (by kernel_rfl) rfl (by kernel_rfl) (by kernel_rfl) (by kernel_rfl) (fun _ _ _ h => h) (Or.inl ⟨by rfl, ?_⟩) (by assumption) ?_
        rotate_left
        · intro w hSw; (try dsimp only at hSw); (try go_split_ands); go_simp; (try (with_reducible rfl))
        (try simp only [Act.put, List.setIfInBounds_toArray, List.set_cons_zero, List.set_cons_succ])
        refine wpAnyR_take (i := 13) (oi := ⟨some 66, _, _, _, _, _⟩) (v := ?_) (by kernel_rfl) (by kernel_rfl) rfl (by kernel_rfl) (by kernel_rfl) (by kernel_rfl) (fun _ _ _ h => h) (Or.inl ⟨by rfl, ?_⟩) (by assumption) ?_
        rotate_left
        · intro w hSw; (try dsimp only at hSw); (try go_split_ands); go_simp; (try (with_reducible rfl))
        (try simp only [Act.put, List.setIfInBounds_toArray, List.set_cons_zero, List.set_cons_succ])
        refine wpAnyR_take (i := 14) (oi := ⟨some 67, _, _, _, _, _⟩) (v := ?_) (by kernel_rfl) (by kernel_rfl) rfl (by kernel_rfl) (by kernel_rfl) (by kernel_rfl) (fun _ _ _ h => h) (Or.inl ⟨by rfl, ?_⟩) (by assumption) ?_
        rotate_left
        · intro w hSw; (try dsimp only at hSw); (try go_split_ands); go_simp; (try (with_reducible rfl))
        (try simp only [Act.put, List.setIfInBounds_toArray, List.set_cons_zero, List.set_cons_succ])
        refine wpAnyR_take (i := 15) (oi := ⟨some 68, _, _, _, _, _⟩) (v := ?_) (by kernel_rfl) (by kernel_rfl) rfl (by kernel_rfl) (by kernel_rfl) (by kernel_rfl) (fun _ _ _ h => h) (Or.inl ⟨by rfl, ?_⟩) (by assumption) ?_
        rotate_left
        · intro w hSw; (try dsimp only at hSw); (try go_split_ands); go_simp; (try (with_reducible rfl))
        (try simp only [Act.put, List.setIfInBounds_toArray, List.set_cons_zero, List.set_cons_succ])
        refine wpAnyR_take (i := 16) (oi := ⟨some 69, _, _, _, _, _⟩) (v := ?_) (by kernel_rfl) (by kernel_rfl) rfl (by kernel_rfl) (by kernel_rfl) (by kernel_rfl) (fun _ _ _ h => h) (Or.inl ⟨by rfl, ?_⟩) (by assumption) ?_
        rotate_left
        · intro w hSw; (try dsimp only at hSw); (try go_split_ands); go_simp; (try (with_reducible rfl))
        (try simp only [Act.put, List.setIfInBounds_toArray, List.set_cons_zero, List.set_cons_succ])
        refine wpAnyR_take (i := 17) (oi := ⟨some 70, _, _, _, _, _⟩) (v := ?_) (by kernel_rfl) (by kernel_rfl) rfl (by kernel_rfl) (by kernel_rfl) (by kernel_rfl) (fun _ _ _ h => h) (Or.inl ⟨by rfl, ?_⟩) (by assumption) ?_
        rotate_left
        · intro w hSw; (try dsimp only at hSw); (try go_split_ands); go_simp; (try (with_reducible rfl))
        (try simp only [Act.put, List.setIfInBounds_toArray, List.set_cons_zero, List.set_cons_succ])
        refine wpAnyR_one (i := 18) (o := ⟨some 71, _, _, _, _, _⟩) (by kernel_rfl) (by kernel_rfl) rfl (fun K hK => ?_)
        go_simp
        refine (HRW.out wr.drew (below_drew (Below.refl _ _))).mono ?_
        rintro e w8 ⟨rfl, hb8⟩
        have hb8' : Below wr.heap.size wr w8 := (below_drew (Below.refl _ wr)).trans hb8
        (try dsimp only)
        refine hK.out _ _ (.inr (S0 _ hb8')) ?_
        clear hK K
        (try simp only [Act.put, List.setIfInBounds_toArray, List.set_cons_zero, List.set_cons_succ])
        refine wpAnyR_one (i := 19) (o := ⟨some 72, _, _, _, _, _⟩) (by kernel_rfl) (by kernel_rfl) rfl (fun K hK => ?_)
        go_simp
        refine hK.out _ _ (.inr (S0 _ hb8')) ?_
        clear hK K
        (try simp only [Act.put, List.setIfInBounds_toArray, List.set_cons_zero, List.set_cons_succ])
        refine wpAnyR_one (i := 20) (o := ⟨some 73, _, _, _, _, _⟩) (by kernel_rfl) (by kernel_rfl) rfl (fun K hK => ?_)
        go_simp
        refine hK.out _ _ (.inr (S0 _ hb8')) ?_
        clear hK K
        (try simp only [Act.put, List.setIfInBounds_toArray, List.set_cons_zero, List.set_cons_succ])
        refine wpAnyR_done (by kernel_rfl) ?_ _
        go_wp2_with fail
        go_roundw
        case rel => exact RND.out _ hb8'
        case measure => simp [intOf]; omega
    · obtain rfl : i = GL.length := by omega
      have hfin : sumG (G.take GL.length) = x0.length := by rw [HGL.out.2, List.take_of_length_le (Nat.le_refl _)]; exact HSUM.out
      have HF := Lib.hid hfin
      clear hfin
      have hfz : ((sumG (G.take GL.length) : Int) == (x0.length : Int)) = true := by rw [HF.out]; simp
      have hfd : decide ((sumG (G.take GL.length) : Int) = (x0.length : Int)) = true := by rw [HF.out]; simp
      have halive := aliveX_any wr
      by_cases hx0 : x1.length = 0
      · have hG1 : GL.length = 1 := by rw [HGL.out.2]; exact HNIL.out hx0
        have hG1z : ((GL.length : Int) == 1) = true := by rw [hG1]; rfl
        have hpz : decide ((0 : Int) < (x1.length : Int)) = false := by rw [hx0]; rfl
        have hpz2 : ¬ ((0 : Int) < (x1.length : Int)) := by omega
        have HG1 := Lib.hid (And.intro hG1 hx0)
        clear hG1 hx0
        go_wp2_with fail
        refine halive.mono ?_
        rintro e w8 ⟨rfl, hb8⟩
        have hBe := btrC hbw hb8
        go_wp2_with fail
        all_goals first
          | (rename_i hne; exact absurd (List.eq_nil_of_length_eq_zero HG1.out.2) hne)
          | (go_ret; exact ⟨rfl, hBe⟩)
      · have hpz2 : ((0 : Int) < (x1.length : Int)) := by omega
        have hne : ¬ x1 = [] := fun h => hx0 (by rw [h]; rfl)
        go_wp2_with fail
        refine halive.mono ?_
        rintro e w8 ⟨rfl, hb8⟩
        have hBe := btrC hbw hb8
        go_wp2_with fail
        all_goals first
          | (go_ret; exact ⟨rfl, hBe⟩)
end Go.Proofs.Ytghblnldokpceaa.QV
