/- The parts Vtab, Vtab2, Vtab3, Vtab4, Vtab5, Vtab6, Vtab8, RejC, RejF, Twice, Told of this proof, one behind the other. -/
import Derived.Test.YtghblnldokpceaaZ3
import Derived.Shelf.RegionOpenPlain
import Derived.Below
import Derived.Handy
/- slices.SortStableFunc over versions, walked: insertion sort of a part. -/
namespace Go.Proofs.Ytghblnldokpceaa.QV
open Go.RowKit Go.Proofs.YtghblnldokpceaaW.PrintWords Go.Proofs.Ytghblnldokpceaa.SeqW Go.Proofs.Ytghblnldokpceaa.SeqX Go.Shelf Go.Proofs.Ytghblnldokpceaa.Op Go.Proofs.Ytghblnldokpceaa.Stab
set_option linter.unusedVariables false
set_option linter.unusedSimpArgs false
abbrev tElV : Nat := 85

/-- A block that holds elements, one behind the other. -/
def ElV (enc : Nat → List Value) (rest : List Value) (g : Nat) (xs : List Nat) (W : World) : Prop := W.heap[g]? = some (.cells (xs.flatMap enc ++ rest).toArray tElV (0, 0)) ∧ ∀ x, (enc x).length = 4
theorem flat4 {enc : Nat → List Value} (h : ∀ x, (enc x).length = 4) : ∀ A : List Nat, (A.flatMap enc).length = A.length * 4
  | [] => rfl
  | x :: A => by rw [List.flatMap_cons, List.length_append, h x, flat4 h A, List.length_cons]; omega
theorem ElV.cells {enc : Nat → List Value} {rest : List Value} {g : Nat} {A B : List Nat} {x : Nat} {W : World} (h : ElV enc rest g (A ++ x :: B) W) {i : Nat} (hi : A.length = i) (k : Nat) (hk : k < 4) : W.cell? ⟨g, i * 4 + k, none⟩ = (enc x)[k]? := by
  subst hi
  have hf := flat4 h.2 A
  rw [blk_cell h.1, List.flatMap_append, List.flatMap_cons, List.getElem?_toArray, List.append_assoc, List.append_assoc]
  rw [List.getElem?_append_right (by omega), hf, show A.length * 4 + k - A.length * 4 = k by omega, List.getElem?_append_left (by rw [h.2]; exact hk)]
theorem ElV.at {enc : Nat → List Value} {rest : List Value} {g : Nat} {A B : List Nat} {x : Nat} {W : World} (h : ElV enc rest g (A ++ x :: B) W) {i : Nat} (hi : A.length = i) {c0 c1 c2 c3 : Value} (hx : enc x = [c0, c1, c2, c3]) :
    W.cell? ⟨g, i * 4, none⟩ = some c0 ∧ W.cell? ⟨g, i * 4 + 1, none⟩ = some c1 ∧ W.cell? ⟨g, i * 4 + 2, none⟩ = some c2 ∧ W.cell? ⟨g, i * 4 + 3, none⟩ = some c3 := by
  have h0 := h.cells hi 0 (by omega); have h1 := h.cells hi 1 (by omega); have h2 := h.cells hi 2 (by omega); have h3 := h.cells hi 3 (by omega)
  rw [hx] at h0 h1 h2 h3
  exact ⟨h0, h1, h2, h3⟩
theorem ElV.frozen {enc : Nat → List Value} {rest : List Value} {g : Nat} {xs : List Nat} {W : World} (h : ElV enc rest g xs W) (i : Nat) : W.frozen? ⟨g, i, none⟩ = false := blk_frozen h.1 i
theorem set4 (A : List Value) (a0 a1 a2 a3 c0 c1 c2 c3 : Value) (B : List Value) (n : Nat) (hn : A.length = n) : ((((A ++ a0 :: a1 :: a2 :: a3 :: B).set n c0).set (n + 1) c1).set (n + 2) c2).set (n + 3) c3 = A ++ c0 :: c1 :: c2 :: c3 :: B := by
  subst hn
  simp [List.set_append]
theorem ElV.set {enc : Nat → List Value} {rest : List Value} {g : Nat} {A B : List Nat} {x y : Nat} {W : World} (h : ElV enc rest g (A ++ x :: B) W) {i : Nat} (hi : A.length = i) {c0 c1 c2 c3 : Value} (hy : enc y = [c0, c1, c2, c3]) :
    ElV enc rest g (A ++ y :: B) ((((W.setCell ⟨g, i * 4, none⟩ c0).setCell ⟨g, i * 4 + 1, none⟩ c1).setCell ⟨g, i * 4 + 2, none⟩ c2).setCell ⟨g, i * 4 + 3, none⟩ c3) := by
  subst hi
  refine ⟨?_, h.2⟩
  have hf := flat4 h.2 A
  obtain ⟨a0, a1, a2, a3, hx⟩ : ∃ a0 a1 a2 a3, enc x = [a0, a1, a2, a3] := by
    have := h.2 x
    match hh : enc x, this with
    | [a0, a1, a2, a3], _ => exact ⟨a0, a1, a2, a3, rfl⟩
  have h2 := blk_set (blk_set (blk_set (blk_set h.1 (A.length * 4) c0) (A.length * 4 + 1) c1) (A.length * 4 + 2) c2) (A.length * 4 + 3) c3
  have e : (((((A ++ x :: B).flatMap enc ++ rest).toArray.setIfInBounds (A.length * 4) c0).setIfInBounds (A.length * 4 + 1) c1).setIfInBounds (A.length * 4 + 2) c2).setIfInBounds (A.length * 4 + 3) c3 = ((A ++ y :: B).flatMap enc ++ rest).toArray := by
    rw [List.setIfInBounds_toArray, List.setIfInBounds_toArray, List.setIfInBounds_toArray, List.setIfInBounds_toArray, List.flatMap_append, List.flatMap_append, List.flatMap_cons, List.flatMap_cons, hx, hy]
    simp only [List.append_assoc, List.cons_append, List.nil_append]
    exact congrArg List.toArray (set4 (A.flatMap enc) a0 a1 a2 a3 c0 c1 c2 c3 (B.flatMap enc ++ rest) _ hf)
  rw [e] at h2
  exact h2
theorem ElV.kept {enc : Nat → List Value} {rest : List Value} {g : Nat} {xs : List Nat} {W W' : World} (h : ElV enc rest g xs W) (hb : Below W.heap.size W W') : ElV enc rest g xs W' := ⟨blk_below h.1 hb, h.2⟩
theorem ElV.drew {enc : Nat → List Value} {rest : List Value} {g : Nat} {xs : List Nat} {W : World} (h : ElV enc rest g xs W) : ElV enc rest g xs W.drew := h
theorem ElV.cast {enc : Nat → List Value} {rest : List Value} {g : Nat} {xs ys : List Nat} {W : World} (h : ElV enc rest g xs W) (e : xs = ys) : ElV enc rest g ys W := e ▸ h
theorem kpt_put8 (V : World) (g i j : Nat) (a0 a1 a2 a3 c0 c1 c2 c3 : Value) : Seq.Kpt (fun k => k = g) V ((((((((V.setCell ⟨g, i * 4, none⟩ a0).setCell ⟨g, i * 4 + 1, none⟩ a1).setCell ⟨g, i * 4 + 2, none⟩ a2).setCell ⟨g, i * 4 + 3, none⟩ a3).setCell ⟨g, j * 4, none⟩ c0).setCell ⟨g, j * 4 + 1, none⟩ c1).setCell ⟨g, j * 4 + 2, none⟩ c2).setCell ⟨g, j * 4 + 3, none⟩ c3) := by
  have st : ∀ (V : World) (k : Nat) (v : Value), Seq.Kpt (fun t => t = g) V (V.setCell ⟨g, k, none⟩ v) := fun V k v => Seq.Kpt.setCell V ⟨g, k, none⟩ v
  exact (((((((st _ _ _).trans (st _ _ _) (fun _ _ h => h.elim id id)).trans (st _ _ _) (fun _ _ h => h.elim id id)).trans (st _ _ _) (fun _ _ h => h.elim id id)).trans (st _ _ _) (fun _ _ h => h.elim id id)).trans (st _ _ _) (fun _ _ h => h.elim id id)).trans (st _ _ _) (fun _ _ h => h.elim id id)).trans (st _ _ _) (fun _ _ h => h.elim id id)
/-- The comparison, in whatever world in which but the elements' block is as it was. -/
def CmpAtV (cf : Nat → Nat → Int) (enc : Nat → List Value) (gc : Nat) (lb : Array Value) (g : Nat) (w0 : World) : Prop :=
  ∀ x y V, Seq.Kpt (fun i => i = g) w0 V → Calls Try.prog gc (#[.agg (enc x).toArray, .agg (enc y).toArray] ++ lb) V fun e V' => e = .returned (.int .i64 (cf x y)) ∧ Below V.heap.size V V'
def At4 (V : World) (g i : Nat) (c0 c1 c2 c3 : Value) : Prop := V.cell? ⟨g, i * 4, none⟩ = some c0 ∧ V.cell? ⟨g, i * 4 + 1, none⟩ = some c1 ∧ V.cell? ⟨g, i * 4 + 2, none⟩ = some c2 ∧ V.cell? ⟨g, i * 4 + 3, none⟩ = some c3
/-- An exchange, the lower place written first. -/
theorem ElV.swapLo {enc : Nat → List Value} {rest : List Value} {g : Nat} {A B C : List Nat} {x y : Nat} {W : World} (h : ElV enc rest g (A ++ x :: (B ++ y :: C)) W) {I J : Nat} (hI : A.length = I) (hJ : I + 1 + B.length = J) {a0 a1 a2 a3 c0 c1 c2 c3 : Value} (hx : enc x = [a0, a1, a2, a3]) (hy : enc y = [c0, c1, c2, c3]) :
    At4 W g I a0 a1 a2 a3 ∧ At4 W g J c0 c1 c2 c3 ∧ At4 ((((W.setCell ⟨g, I * 4, none⟩ c0).setCell ⟨g, I * 4 + 1, none⟩ c1).setCell ⟨g, I * 4 + 2, none⟩ c2).setCell ⟨g, I * 4 + 3, none⟩ c3) g J c0 c1 c2 c3 ∧
      (((((W.setCell ⟨g, I * 4, none⟩ c0).setCell ⟨g, I * 4 + 1, none⟩ c1).setCell ⟨g, I * 4 + 2, none⟩ c2).setCell ⟨g, I * 4 + 3, none⟩ c3).frozen? ⟨g, J * 4, none⟩ = false ∧ ((((W.setCell ⟨g, I * 4, none⟩ c0).setCell ⟨g, I * 4 + 1, none⟩ c1).setCell ⟨g, I * 4 + 2, none⟩ c2).setCell ⟨g, I * 4 + 3, none⟩ c3).frozen? ⟨g, J * 4 + 1, none⟩ = false ∧ ((((W.setCell ⟨g, I * 4, none⟩ c0).setCell ⟨g, I * 4 + 1, none⟩ c1).setCell ⟨g, I * 4 + 2, none⟩ c2).setCell ⟨g, I * 4 + 3, none⟩ c3).frozen? ⟨g, J * 4 + 2, none⟩ = false ∧ ((((W.setCell ⟨g, I * 4, none⟩ c0).setCell ⟨g, I * 4 + 1, none⟩ c1).setCell ⟨g, I * 4 + 2, none⟩ c2).setCell ⟨g, I * 4 + 3, none⟩ c3).frozen? ⟨g, J * 4 + 3, none⟩ = false) ∧
      ElV enc rest g (A ++ y :: (B ++ x :: C)) ((((((((W.setCell ⟨g, I * 4, none⟩ c0).setCell ⟨g, I * 4 + 1, none⟩ c1).setCell ⟨g, I * 4 + 2, none⟩ c2).setCell ⟨g, I * 4 + 3, none⟩ c3).setCell ⟨g, J * 4, none⟩ a0).setCell ⟨g, J * 4 + 1, none⟩ a1).setCell ⟨g, J * 4 + 2, none⟩ a2).setCell ⟨g, J * 4 + 3, none⟩ a3) := by
  have h1 := ElV.set (y := y) h hI hy
  have h2 := h1.cast (ys := (A ++ y :: B) ++ y :: C) (by simp)
  have hl : (A ++ y :: B).length = J := by simp; omega
  have hl' : (A ++ x :: B).length = J := by simp; omega
  exact ⟨h.at hI hx, (h.cast (ys := (A ++ x :: B) ++ y :: C) (by simp)).at hl' hy, h2.at hl hy, ⟨h2.frozen _, h2.frozen _, h2.frozen _, h2.frozen _⟩, (ElV.set (y := x) h2 hl hx).cast (by simp)⟩
/-- .. the upper one first. -/
theorem ElV.swapHi {enc : Nat → List Value} {rest : List Value} {g : Nat} {A B C : List Nat} {x y : Nat} {W : World} (h : ElV enc rest g (A ++ x :: (B ++ y :: C)) W) {I J : Nat} (hI : A.length = I) (hJ : I + 1 + B.length = J) {a0 a1 a2 a3 c0 c1 c2 c3 : Value} (hx : enc x = [a0, a1, a2, a3]) (hy : enc y = [c0, c1, c2, c3]) :
    At4 W g I a0 a1 a2 a3 ∧ At4 W g J c0 c1 c2 c3 ∧ At4 ((((W.setCell ⟨g, J * 4, none⟩ a0).setCell ⟨g, J * 4 + 1, none⟩ a1).setCell ⟨g, J * 4 + 2, none⟩ a2).setCell ⟨g, J * 4 + 3, none⟩ a3) g I a0 a1 a2 a3 ∧
      (((((W.setCell ⟨g, J * 4, none⟩ a0).setCell ⟨g, J * 4 + 1, none⟩ a1).setCell ⟨g, J * 4 + 2, none⟩ a2).setCell ⟨g, J * 4 + 3, none⟩ a3).frozen? ⟨g, I * 4, none⟩ = false ∧ ((((W.setCell ⟨g, J * 4, none⟩ a0).setCell ⟨g, J * 4 + 1, none⟩ a1).setCell ⟨g, J * 4 + 2, none⟩ a2).setCell ⟨g, J * 4 + 3, none⟩ a3).frozen? ⟨g, I * 4 + 1, none⟩ = false ∧ ((((W.setCell ⟨g, J * 4, none⟩ a0).setCell ⟨g, J * 4 + 1, none⟩ a1).setCell ⟨g, J * 4 + 2, none⟩ a2).setCell ⟨g, J * 4 + 3, none⟩ a3).frozen? ⟨g, I * 4 + 2, none⟩ = false ∧ ((((W.setCell ⟨g, J * 4, none⟩ a0).setCell ⟨g, J * 4 + 1, none⟩ a1).setCell ⟨g, J * 4 + 2, none⟩ a2).setCell ⟨g, J * 4 + 3, none⟩ a3).frozen? ⟨g, I * 4 + 3, none⟩ = false) ∧
      ElV enc rest g (A ++ y :: (B ++ x :: C)) ((((((((W.setCell ⟨g, J * 4, none⟩ a0).setCell ⟨g, J * 4 + 1, none⟩ a1).setCell ⟨g, J * 4 + 2, none⟩ a2).setCell ⟨g, J * 4 + 3, none⟩ a3).setCell ⟨g, I * 4, none⟩ c0).setCell ⟨g, I * 4 + 1, none⟩ c1).setCell ⟨g, I * 4 + 2, none⟩ c2).setCell ⟨g, I * 4 + 3, none⟩ c3) := by
  have hl' : (A ++ x :: B).length = J := by simp; omega
  have h1 := ElV.set (y := x) (h.cast (ys := (A ++ x :: B) ++ y :: C) (by simp)) hl' hx
  have h2 := h1.cast (ys := A ++ x :: (B ++ x :: C)) (by simp)
  exact ⟨h.at hI hx, (h.cast (ys := (A ++ x :: B) ++ y :: C) (by simp)).at hl' hy, h2.at hI hx, ⟨h2.frozen _, h2.frozen _, h2.frozen _, h2.frozen _⟩, ElV.set (y := y) h2 hI hy⟩

set_option maxRecDepth 100000 in
set_option maxHeartbeats 8000000 in
theorem insV_any (n c a b g : Nat) (cf : Nat → Nat → Int) (gc : Nat) (lb : Array Value) (hcf : CmpOk cf) (enc : Nat → List Value) (rest : List Value) (p s q : List Nat) (w0 W : World)
    (hx : ElV enc rest g (p ++ s ++ q) W) (hp : p.length = a) (hs : a + s.length = b) (hn : (p ++ s ++ q).length = n) (hn2 : n ≤ 5864062014805) (hasc : s.Pairwise (· < ·)) (hk : Seq.Kpt (fun i => i = g) w0 W)
    (hcmp : CmpAtV cf enc gc lb g w0) (eg : ∀ args w, (callFunc gc args).run Try.prog w = .ok (.enter gc args) w) (hform : ∀ x, ∃ e m A l c d, enc x = [Value.int .u64 e, Value.int .u32 m, Value.slice A l c, Value.int .u64 d]) :
    Calls Try.prog 81 #[.slice (some ⟨g, 0, none⟩) n c, .int .i64 a, .int .i64 b, .func (.func gc) #[] lb] W fun e W' => e = .returned (.tuple #[]) ∧
      ∃ s', s'.Perm s ∧ s'.Pairwise (Lt cf) ∧ Seq.Kpt (fun i => i = g) W W' ∧ ElV enc rest g (p ++ s' ++ q) W' := by
  have hlen : a + s.length + q.length = n := by rw [← hn, ← hp]; simp; omega
  clear hn
  go_enter Try.func81, Try.ntmps81
  go_wp2_with fail
  go_loopw [8] (fun i wr => ∃ m im : Nat, i = .int .i64 (im : Int) ∧ a + m = im ∧ 1 ≤ m ∧ m ≤ s.length + 1 ∧ (∃ s1, s1.Perm (s.take m) ∧ s1.Pairwise (Lt cf) ∧ ElV enc rest g (p ++ (s1 ++ s.drop m) ++ q) wr) ∧ Seq.Kpt (fun i => i = g) W wr) (fun i _ => b + 1 - (intOf i).toNat)
  case atStart =>
    refine ⟨1, a + 1, by go_num, rfl, by omega, by omega, ⟨s.take 1, List.Perm.refl _, ?_, by rw [List.take_append_drop]; exact hx⟩, Seq.Kpt.refl _ _⟩
    rcases s with _ | ⟨x, s⟩ <;> simp
  case round =>
    obtain ⟨m, im, rfl, him, hm1, hm2, ⟨s1, hpm, hpw, hE⟩, hkr⟩ := hrel
    by_cases hlt : m < s.length
    · have hlz : (im : Int) < (b : Int) := by omega
      obtain ⟨x, hd, ht⟩ := drop_cons hlt
      rw [hd] at hE
      go_wp2_with fail
      have hml : s1.length = m := by rw [hpm.length_eq, List.length_take]; omega
      have hxb : ∀ y ∈ s1, y < x := by
        intro y hy
        have h1 : y ∈ s.take m := hpm.mem_iff.1 hy
        have h2 : (s.take m ++ x :: s.drop (m + 1)).Pairwise (· < ·) := by rw [← hd, List.take_append_drop]; exact hasc
        exact (List.pairwise_append.1 h2).2.2 y h1 x (by simp)
      obtain ⟨R, hR⟩ : ∃ R, s.drop (m + 1) = R := ⟨_, rfl⟩
      have hRl : R.length + (m + 1) = s.length := by rw [← hR, List.length_drop]; omega
      rw [hR] at hE
      have HT := Lib.hid ht
      have HD := Lib.hid hd
      have HPM := Lib.hid hpm
      clear ht hd hpm
      have fin : ∀ u v : List Nat, s1 = u ++ v → (∀ y ∈ v, Lt cf x y) → (∀ y ∈ u, Lt cf y x) → ∃ s2 : List Nat, s2 = u ++ x :: v ∧ s2.Perm (s.take (m + 1)) ∧ s2.Pairwise (Lt cf) := by
        intro u v huv hv hu
        have hpw' := hpw
        rw [huv] at hpw'
        refine ⟨_, rfl, ?_, ?_⟩
        · rw [HT.out]
          refine List.perm_middle.trans ?_
          rw [← huv]
          exact (List.Perm.cons x HPM.out).trans (List.perm_append_singleton x _).symm
        · refine pw_append (List.pairwise_append.1 hpw').1 (List.pairwise_cons.2 ⟨hv, (List.pairwise_append.1 hpw').2.1⟩) ?_
          intro y hy z hz
          rcases List.mem_cons.1 hz with hz | hz
          · rw [hz]; exact hu y hy
          · exact (List.pairwise_append.1 hpw').2.2 y hy z hz
      have FIN := Lib.hid fin
      clear fin
      go_loopw [9] (fun j wq => ∃ (u v : List Nat) (jm : Nat), j = .int .i64 (jm : Int) ∧ a + u.length = jm ∧ s1 = u ++ v ∧ (∀ y ∈ v, Lt cf x y) ∧ ElV enc rest g (p ++ (u ++ x :: (v ++ R)) ++ q) wq ∧ Seq.Kpt (fun i => i = g) W wq) (fun j _ => (intOf j).toNat)
      case atStart => exact ⟨s1, [], im, rfl, by rw [hml]; exact him, by simp, by simp, hE.cast (by simp), hkr⟩
      case round =>
        obtain ⟨u, v, jm, rfl, hjm, huv, hv, hE2, hk2⟩ := hrel
        rcases snoc_cases u with rfl | ⟨u', y, rfl⟩
        · obtain rfl : a = jm := by simpa using hjm
          have hg0 : decide ((a : Int) > (a : Int)) = false := by simp
          go_wp2_with fail
          refine (wpIn_wide (n := 0)).1 ?_
          refine wpIn_region_R (l := 0) 17 (S := fun _ => True) (by kernel_rfl) trivial (fun hS0 => ?_)
          refine wpAnyR_take (i := 0) (oi := ⟨some 18, _, _, _, _, _⟩) (v := ?_) (by kernel_rfl) (by kernel_rfl) rfl (by kernel_rfl) (by kernel_rfl) (by kernel_rfl) (fun _ _ _ h => h) (Or.inl ⟨by rfl, ?_⟩) (by assumption) ?_
          rotate_left
          · intro w hSw; (try dsimp only at hSw); (try go_split_ands); go_simp; (try (with_reducible rfl))
          (try simp only [Act.put, List.setIfInBounds_toArray, List.set_cons_zero, List.set_cons_succ])
          refine wpAnyR_take (i := 1) (oi := ⟨some 19, _, _, _, _, _⟩) (v := ?_) (by kernel_rfl) (by kernel_rfl) rfl (by kernel_rfl) (by kernel_rfl) (by kernel_rfl) (fun _ _ _ h => h) (Or.inl ⟨by rfl, ?_⟩) (by assumption) ?_
          rotate_left
          · intro w hSw; (try dsimp only at hSw); (try go_split_ands); go_simp; (try (with_reducible rfl))
          (try simp only [Act.put, List.setIfInBounds_toArray, List.set_cons_zero, List.set_cons_succ])
          refine wpAnyR_take (i := 2) (oi := ⟨some 20, _, _, _, _, _⟩) (v := ?_) (by kernel_rfl) (by kernel_rfl) rfl (by kernel_rfl) (by kernel_rfl) (by kernel_rfl) (fun _ _ _ h => h) (Or.inl ⟨by rfl, ?_⟩) (by assumption) ?_
          rotate_left
          · intro w hSw; (try dsimp only at hSw); (try go_split_ands); go_simp; (try (with_reducible rfl))
          (try simp only [Act.put, List.setIfInBounds_toArray, List.set_cons_zero, List.set_cons_succ])
          refine wpAnyR_take (i := 3) (oi := ⟨some 21, _, _, _, _, _⟩) (v := ?_) (by kernel_rfl) (by kernel_rfl) rfl (by kernel_rfl) (by kernel_rfl) (by kernel_rfl) (fun _ _ _ h => h) (Or.inl ⟨by rfl, ?_⟩) (by assumption) ?_
          rotate_left
          · intro w hSw; (try dsimp only at hSw); (try go_split_ands); go_simp; (try (with_reducible rfl))
          (try simp only [Act.put, List.setIfInBounds_toArray, List.set_cons_zero, List.set_cons_succ])
          refine wpAnyR_take (i := 4) (oi := ⟨some 22, _, _, _, _, _⟩) (v := undef) (by kernel_rfl) (by kernel_rfl) rfl (by kernel_rfl) (by kernel_rfl) (by kernel_rfl) (fun _ _ _ h => h) (Or.inr ⟨by rfl, rfl⟩) (by assumption) ?_
          (try simp only [Act.put, List.setIfInBounds_toArray, List.set_cons_zero, List.set_cons_succ])
          refine wpAnyR_take (i := 5) (oi := ⟨some 23, _, _, _, _, _⟩) (v := undef) (by kernel_rfl) (by kernel_rfl) rfl (by kernel_rfl) (by kernel_rfl) (by kernel_rfl) (fun _ _ _ h => h) (Or.inr ⟨by rfl, rfl⟩) (by assumption) ?_
          (try simp only [Act.put, List.setIfInBounds_toArray, List.set_cons_zero, List.set_cons_succ])
          refine wpAnyR_take (i := 6) (oi := ⟨some 24, _, _, _, _, _⟩) (v := undef) (by kernel_rfl) (by kernel_rfl) rfl (by kernel_rfl) (by kernel_rfl) (by kernel_rfl) (fun _ _ _ h => h) (Or.inr ⟨by rfl, rfl⟩) (by assumption) ?_
          (try simp only [Act.put, List.setIfInBounds_toArray, List.set_cons_zero, List.set_cons_succ])
          refine wpAnyR_take (i := 7) (oi := ⟨some 25, _, _, _, _, _⟩) (v := undef) (by kernel_rfl) (by kernel_rfl) rfl (by kernel_rfl) (by kernel_rfl) (by kernel_rfl) (fun _ _ _ h => h) (Or.inr ⟨by rfl, rfl⟩) (by assumption) ?_
          (try simp only [Act.put, List.setIfInBounds_toArray, List.set_cons_zero, List.set_cons_succ])
          refine wpAnyR_take (i := 8) (oi := ⟨some 26, _, _, _, _, _⟩) (v := undef) (by kernel_rfl) (by kernel_rfl) rfl (by kernel_rfl) (by kernel_rfl) (by kernel_rfl) (fun _ _ _ h => h) (Or.inr ⟨by rfl, rfl⟩) (by assumption) ?_
          (try simp only [Act.put, List.setIfInBounds_toArray, List.set_cons_zero, List.set_cons_succ])
          refine wpAnyR_take (i := 9) (oi := ⟨some 27, _, _, _, _, _⟩) (v := undef) (by kernel_rfl) (by kernel_rfl) rfl (by kernel_rfl) (by kernel_rfl) (by kernel_rfl) (fun _ _ _ h => h) (Or.inr ⟨by rfl, rfl⟩) (by assumption) ?_
          (try simp only [Act.put, List.setIfInBounds_toArray, List.set_cons_zero, List.set_cons_succ])
          refine wpAnyR_take (i := 10) (oi := ⟨some 28, _, _, _, _, _⟩) (v := undef) (by kernel_rfl) (by kernel_rfl) rfl (by kernel_rfl) (by kernel_rfl) (by kernel_rfl) (fun _ _ _ h => h) (Or.inr ⟨by rfl, rfl⟩) (by assumption) ?_
          (try simp only [Act.put, List.setIfInBounds_toArray, List.set_cons_zero, List.set_cons_succ])
          refine wpAnyR_take (i := 11) (oi := ⟨some 29, _, _, _, _, _⟩) (v := undef) (by kernel_rfl) (by kernel_rfl) rfl (by kernel_rfl) (by kernel_rfl) (by kernel_rfl) (fun _ _ _ h => h) (Or.inr ⟨by rfl, rfl⟩) (by assumption) ?_
          (try simp only [Act.put, List.setIfInBounds_toArray, List.set_cons_zero, List.set_cons_succ])
          refine wpAnyR_take (i := 12) (oi := ⟨some 30, _, _, _, _, _⟩) (v := undef) (by kernel_rfl) (by kernel_rfl) rfl (by kernel_rfl) (by kernel_rfl) (by kernel_rfl) (fun _ _ _ h => h) (Or.inr ⟨by rfl, rfl⟩) (by assumption) ?_
          (try simp only [Act.put, List.setIfInBounds_toArray, List.set_cons_zero, List.set_cons_succ])
          refine wpAnyR_take (i := 13) (oi := ⟨some 31, _, _, _, _, _⟩) (v := undef) (by kernel_rfl) (by kernel_rfl) rfl (by kernel_rfl) (by kernel_rfl) (by kernel_rfl) (fun _ _ _ h => h) (Or.inr ⟨by rfl, rfl⟩) (by assumption) ?_
          (try simp only [Act.put, List.setIfInBounds_toArray, List.set_cons_zero, List.set_cons_succ])
          refine wpAnyR_take (i := 14) (oi := ⟨some 32, _, _, _, _, _⟩) (v := undef) (by kernel_rfl) (by kernel_rfl) rfl (by kernel_rfl) (by kernel_rfl) (by kernel_rfl) (fun _ _ _ h => h) (Or.inr ⟨by rfl, rfl⟩) (by assumption) ?_
          (try simp only [Act.put, List.setIfInBounds_toArray, List.set_cons_zero, List.set_cons_succ])
          refine wpAnyR_take (i := 15) (oi := ⟨some 33, _, _, _, _, _⟩) (v := undef) (by kernel_rfl) (by kernel_rfl) rfl (by kernel_rfl) (by kernel_rfl) (by kernel_rfl) (fun _ _ _ h => h) (Or.inr ⟨by rfl, rfl⟩) (by assumption) ?_
          (try simp only [Act.put, List.setIfInBounds_toArray, List.set_cons_zero, List.set_cons_succ])
          refine wpAnyR_take (i := 16) (oi := ⟨some 34, _, _, _, _, _⟩) (v := ?_) (by kernel_rfl) (by kernel_rfl) rfl (by kernel_rfl) (by kernel_rfl) (by kernel_rfl) (fun _ _ _ h => h) (Or.inl ⟨by rfl, ?_⟩) (by assumption) ?_
          rotate_left
          · intro w hSw; (try dsimp only at hSw); (try go_split_ands); go_simp; (try (with_reducible rfl))
          (try simp only [Act.put, List.setIfInBounds_toArray, List.set_cons_zero, List.set_cons_succ])
          refine wpAnyR_done (by kernel_rfl) ?_ _
          go_wp2
          go_roundw
          case rel =>
            obtain ⟨s2, he2, hp2, hw2⟩ := FIN.out [] v huv hv (by simp)
            exact ⟨m + 1, im + 1, by go_num, by omega, by omega, by omega, ⟨s2, hp2, hw2, by rw [hR, he2]; exact ElV.cast hE2 (by simp)⟩, hk2.trans (Seq.Kpt.drew _ _) (fun _ _ h => h.elim id id)⟩
          case measure => simp [intOf]; omega
        · obtain ⟨J, hJ⟩ : ∃ J : Nat, a + u'.length = J := ⟨_, rfl⟩
          obtain ⟨I, hI⟩ : ∃ I : Nat, J + 1 = I := ⟨_, rfl⟩
          obtain rfl : I = jm := by rw [← hjm, ← hI, ← hJ]; simp; omega
          have hg1 : (a : Int) < (I : Int) := by omega
          have hg2 : a < I := by omega
          have hj1 : (I : Int) - 1 = (J : Int) := by omega
          have hlu : u'.length + 1 + v.length = m := by rw [← hml, huv]; simp; omega
          have hIn : I < n := by omega
          have hJn : J < n := by omega
          have hwJ : IntKind.i64.wrap (J : Int) = (J : Int) := by rw [IntKind.wrap_i64]; omega
          have hIn' : (I : Int) < (n : Int) := by omega
          have hJn' : (J : Int) < (n : Int) := by omega
          obtain ⟨f0, f1, fA, fl, fc, f3, hf⟩ := hform x
          obtain ⟨s0, s1, sA, sl, sc, s3, hs⟩ := hform y
          have c1 := (hE2.cast (ys := (p ++ u' ++ [y]) ++ x :: (v ++ R ++ q)) (by simp)).at (i := I) (by first | omega | (simp; omega)) hf
          have c0 := (hE2.cast (ys := (p ++ u') ++ y :: (x :: (v ++ R ++ q))) (by simp)).at (i := J) (by first | omega | (simp; omega)) hs
          obtain ⟨z, hz⟩ : ∃ z, cf x y = z := ⟨_, rfl⟩
          go_wp2_with fail
          refine (wpIn_wide (n := 0)).1 ?_
          refine wpIn_region_X (l := 0) 17 (S := fun V : World => (V.cell? ⟨g, I * 4, none⟩ = some (Value.int .u64 f0) ∧ V.cell? ⟨g, I * 4 + 1, none⟩ = some (Value.int .u32 f1) ∧ V.cell? ⟨g, I * 4 + 2, none⟩ = some (Value.slice fA fl fc) ∧ V.cell? ⟨g, I * 4 + 3, none⟩ = some (Value.int .u64 f3)) ∧ (V.cell? ⟨g, J * 4, none⟩ = some (Value.int .u64 s0) ∧ V.cell? ⟨g, J * 4 + 1, none⟩ = some (Value.int .u32 s1) ∧ V.cell? ⟨g, J * 4 + 2, none⟩ = some (Value.slice sA sl sc) ∧ V.cell? ⟨g, J * 4 + 3, none⟩ = some (Value.int .u64 s3))) (by kernel_rfl) ⟨c1, c0⟩ (fun hS0 => ?_)
          refine wpAnyX_pure (i := 0) (oi := ⟨some 18, _, _, _, _, _⟩) (v := ?_) (by kernel_rfl) (by kernel_rfl) rfl (by kernel_rfl) (by kernel_rfl) (by kernel_rfl) (fun _ _ _ h => h) (Or.inl ⟨by rfl, ?_⟩) (by assumption) ?_
          rotate_left
          · intro w _; go_simp; (try (with_reducible rfl))
          (try simp only [Act.put, List.setIfInBounds_toArray, List.set_cons_zero, List.set_cons_succ])
          refine wpAnyX_pure (i := 1) (oi := ⟨some 19, _, _, _, _, _⟩) (v := ?_) (by kernel_rfl) (by kernel_rfl) rfl (by kernel_rfl) (by kernel_rfl) (by kernel_rfl) (fun _ _ _ h => h) (Or.inl ⟨by rfl, ?_⟩) (by assumption) ?_
          rotate_left
          · intro w _; go_simp; (try (with_reducible rfl))
          (try simp only [Act.put, List.setIfInBounds_toArray, List.set_cons_zero, List.set_cons_succ])
          refine wpAnyX_pure (i := 2) (oi := ⟨some 20, _, _, _, _, _⟩) (v := ?_) (by kernel_rfl) (by kernel_rfl) rfl (by kernel_rfl) (by kernel_rfl) (by kernel_rfl) (fun _ _ _ h => h) (Or.inl ⟨by rfl, ?_⟩) (by assumption) ?_
          rotate_left
          · intro w _; go_simp; (try (with_reducible rfl))
          (try simp only [Act.put, List.setIfInBounds_toArray, List.set_cons_zero, List.set_cons_succ])
          refine wpAnyX_pure (i := 3) (oi := ⟨some 21, _, _, _, _, _⟩) (v := ?_) (by kernel_rfl) (by kernel_rfl) rfl (by kernel_rfl) (by kernel_rfl) (by kernel_rfl) (fun _ _ _ h => h) (Or.inl ⟨by rfl, ?_⟩) (by assumption) ?_
          rotate_left
          · intro w _; go_simp; (try (with_reducible rfl))
          (try simp only [Act.put, List.setIfInBounds_toArray, List.set_cons_zero, List.set_cons_succ])
          refine wpAnyX_pure (i := 4) (oi := ⟨some 22, _, _, _, _, _⟩) (v := ?_) (by kernel_rfl) (by kernel_rfl) rfl (by kernel_rfl) (by kernel_rfl) (by kernel_rfl) (fun _ _ _ h => h) (Or.inl ⟨by rfl, ?_⟩) (by assumption) ?_
          rotate_left
          · intro w _; go_simp; (try (with_reducible rfl))
          (try simp only [Act.put, List.setIfInBounds_toArray, List.set_cons_zero, List.set_cons_succ])
          refine wpAnyX_pure (i := 5) (oi := ⟨some 23, _, _, _, _, _⟩) (v := ?_) (by kernel_rfl) (by kernel_rfl) rfl (by kernel_rfl) (by kernel_rfl) (by kernel_rfl) (fun _ _ _ h => h) (Or.inl ⟨by rfl, ?_⟩) (by assumption) ?_
          rotate_left
          · intro w _; go_simp; (try (with_reducible rfl))
          (try simp only [Act.put, List.setIfInBounds_toArray, List.set_cons_zero, List.set_cons_succ])
          refine wpAnyX_pure (i := 6) (oi := ⟨some 24, _, _, _, _, _⟩) (v := ?_) (by kernel_rfl) (by kernel_rfl) rfl (by kernel_rfl) (by kernel_rfl) (by kernel_rfl) (fun _ _ _ h => h) (Or.inl ⟨by rfl, ?_⟩) (by assumption) ?_
          rotate_left
          · intro w _; go_simp; (try (with_reducible rfl))
          (try simp only [Act.put, List.setIfInBounds_toArray, List.set_cons_zero, List.set_cons_succ])
          refine wpAnyX_pure (i := 7) (oi := ⟨some 25, _, _, _, _, _⟩) (v := ?_) (by kernel_rfl) (by kernel_rfl) rfl (by kernel_rfl) (by kernel_rfl) (by kernel_rfl) (fun _ _ _ h => h) (Or.inl ⟨by rfl, ?_⟩) (by assumption) ?_
          rotate_left
          · intro w _; go_simp; (try (with_reducible rfl))
          (try simp only [Act.put, List.setIfInBounds_toArray, List.set_cons_zero, List.set_cons_succ])
          refine wpAnyX_take (i := 8) (oi := ⟨some 26, _, _, _, _, _⟩) (v := ?_) (by kernel_rfl) (by kernel_rfl) (by kernel_rfl) rfl (by kernel_rfl) (by kernel_rfl) (by kernel_rfl) (by kernel_rfl) (fun _ _ _ h => h) (Or.inl ⟨by rfl, ?_⟩) (by assumption) ?_
          rotate_left
          · intro w hSw; (try dsimp only at hSw); (try go_split_ands); go_simp; (try (with_reducible rfl))
          (try simp only [Act.put, List.setIfInBounds_toArray, List.set_cons_zero, List.set_cons_succ])
          refine wpAnyX_pure (i := 9) (oi := ⟨some 27, _, _, _, _, _⟩) (v := ?_) (by kernel_rfl) (by kernel_rfl) rfl (by kernel_rfl) (by kernel_rfl) (by kernel_rfl) (fun _ _ _ h => h) (Or.inl ⟨by rfl, ?_⟩) (by assumption) ?_
          rotate_left
          · intro w _; go_simp; (try (with_reducible rfl))
          (try simp only [Act.put, List.setIfInBounds_toArray, List.set_cons_zero, List.set_cons_succ])
          refine wpAnyX_pure (i := 10) (oi := ⟨some 28, _, _, _, _, _⟩) (v := ?_) (by kernel_rfl) (by kernel_rfl) rfl (by kernel_rfl) (by kernel_rfl) (by kernel_rfl) (fun _ _ _ h => h) (Or.inl ⟨by rfl, ?_⟩) (by assumption) ?_
          rotate_left
          · intro w _; go_simp; (try (with_reducible rfl))
          (try simp only [Act.put, List.setIfInBounds_toArray, List.set_cons_zero, List.set_cons_succ])
          refine wpAnyX_pure (i := 11) (oi := ⟨some 29, _, _, _, _, _⟩) (v := ?_) (by kernel_rfl) (by kernel_rfl) rfl (by kernel_rfl) (by kernel_rfl) (by kernel_rfl) (fun _ _ _ h => h) (Or.inl ⟨by rfl, ?_⟩) (by assumption) ?_
          rotate_left
          · intro w _; go_simp; (try (with_reducible rfl))
          (try simp only [Act.put, List.setIfInBounds_toArray, List.set_cons_zero, List.set_cons_succ])
          refine wpAnyX_pure (i := 12) (oi := ⟨some 30, _, _, _, _, _⟩) (v := ?_) (by kernel_rfl) (by kernel_rfl) rfl (by kernel_rfl) (by kernel_rfl) (by kernel_rfl) (fun _ _ _ h => h) (Or.inl ⟨by rfl, ?_⟩) (by assumption) ?_
          rotate_left
          · intro w _; go_simp; (try (with_reducible rfl))
          (try simp only [Act.put, List.setIfInBounds_toArray, List.set_cons_zero, List.set_cons_succ])
          refine wpAnyX_take (i := 13) (oi := ⟨some 31, _, _, _, _, _⟩) (v := ?_) (by kernel_rfl) (by kernel_rfl) (by kernel_rfl) rfl (by kernel_rfl) (by kernel_rfl) (by kernel_rfl) (by kernel_rfl) (fun _ _ _ h => h) (Or.inl ⟨by rfl, ?_⟩) (by assumption) ?_
          rotate_left
          · intro w hSw; (try dsimp only at hSw); (try go_split_ands); go_simp; (try (with_reducible rfl))
          (try simp only [Act.put, List.setIfInBounds_toArray, List.set_cons_zero, List.set_cons_succ])
          refine wpAnyX_one (i := 14) (o := ⟨some 32, _, _, _, _, _⟩) (by kernel_rfl) (by kernel_rfl) rfl (fun K hK => ?_)
          go_simp
          have hcc := hcmp x y wr.drew ((hk.trans hk2 (fun _ _ h => h.elim id id)).trans (Seq.Kpt.drew _ _) (fun _ _ h => h.elim id id))
          rw [hf, hs, hz] at hcc
          refine hcc.mono ?_
          rintro e w5 ⟨rfl, hb5⟩
          clear hcc
          have hb5' : Below wr.heap.size wr w5 := (below_drew (Below.refl _ wr)).trans hb5
          have hE5 := ElV.kept hE2 hb5'
          have hk5 := hk2.trans (Seq.Kpt.of_new (fun i => i = g) hb5') (fun _ _ h => h.elim id id)
          have c15 := (hE5.cast (ys := (p ++ u' ++ [y]) ++ x :: (v ++ R ++ q)) (by simp)).at (i := I) (by first | omega | (simp; omega)) hf
          have c05 := (hE5.cast (ys := (p ++ u') ++ y :: (x :: (v ++ R ++ q))) (by simp)).at (i := J) (by first | omega | (simp; omega)) hs
          have c55 := And.intro c15 c05
          (try dsimp only)
          refine hK.out _ _ (.inr c55) ?_
          clear hK K
          (try simp only [Act.put, List.setIfInBounds_toArray, List.set_cons_zero, List.set_cons_succ])
          by_cases hz0 : z < 0
          ·
            refine wpAnyX_pure (i := 15) (oi := ⟨some 33, _, _, _, _, _⟩) (v := ?_) (by kernel_rfl) (by kernel_rfl) rfl (by kernel_rfl) (by kernel_rfl) (by kernel_rfl) (fun _ _ _ h => h) (Or.inl ⟨by rfl, ?_⟩) (by assumption) ?_
            rotate_left
            · intro w _; go_simp; (try (with_reducible rfl))
            (try simp only [Act.put, List.setIfInBounds_toArray, List.set_cons_zero, List.set_cons_succ])
            refine wpAnyX_pure (i := 16) (oi := ⟨some 34, _, _, _, _, _⟩) (v := ?_) (by kernel_rfl) (by kernel_rfl) rfl (by kernel_rfl) (by kernel_rfl) (by kernel_rfl) (fun _ _ _ h => h) (Or.inl ⟨by rfl, ?_⟩) (by assumption) ?_
            rotate_left
            · intro w _; go_simp; (try (with_reducible rfl))
            (try simp only [Act.put, List.setIfInBounds_toArray, List.set_cons_zero, List.set_cons_succ])
            refine wpAnyX_done (by kernel_rfl) ?_ _
            (try clear c15 c05 c55 c1 c0 hS0 hf hs)
            obtain ⟨f0, f1, fA, fl, fc, f3, hf⟩ := hform y
            obtain ⟨s0, s1, sA, sl, sc, s3, hs⟩ := hform x
            have hsw := ElV.swapHi (x := y) (y := x) (A := p ++ u') (B := []) (C := v ++ R ++ q) (I := J) (J := I) (hE5.cast (by simp)) (by simp; omega) (by simp; omega) hf hs
            obtain ⟨d1, d0, d2, q2, hE2⟩ := hsw
            have hk2 : Seq.Kpt (fun i => i = g) W ((((((((w5.setCell ⟨g, I * 4, none⟩ (Value.int .u64 f0)).setCell ⟨g, I * 4 + 1, none⟩ (Value.int .u32 f1)).setCell ⟨g, I * 4 + 2, none⟩ (Value.slice fA fl fc)).setCell ⟨g, I * 4 + 3, none⟩ (Value.int .u64 f3)).setCell ⟨g, J * 4, none⟩ (Value.int .u64 s0)).setCell ⟨g, J * 4 + 1, none⟩ (Value.int .u32 s1)).setCell ⟨g, J * 4 + 2, none⟩ (Value.slice sA sl sc)).setCell ⟨g, J * 4 + 3, none⟩ (Value.int .u64 s3)) := hk5.trans (kpt_put8 _ _ _ _ _ _ _ _ _ _ _ _) (fun _ _ h => h.elim id id)
            have e1 : w5.cell? ⟨g, J * 4, none⟩ = some (Value.int .u64 f0) ∧ w5.cell? ⟨g, J * 4 + 1, none⟩ = some (Value.int .u32 f1) ∧ w5.cell? ⟨g, J * 4 + 2, none⟩ = some (Value.slice fA fl fc) ∧ w5.cell? ⟨g, J * 4 + 3, none⟩ = some (Value.int .u64 f3) := d1
            have e0 : w5.cell? ⟨g, I * 4, none⟩ = some (Value.int .u64 s0) ∧ w5.cell? ⟨g, I * 4 + 1, none⟩ = some (Value.int .u32 s1) ∧ w5.cell? ⟨g, I * 4 + 2, none⟩ = some (Value.slice sA sl sc) ∧ w5.cell? ⟨g, I * 4 + 3, none⟩ = some (Value.int .u64 s3) := d0
            have e4 : w5.frozen? ⟨g, J * 4, none⟩ = false ∧ w5.frozen? ⟨g, J * 4 + 1, none⟩ = false ∧ w5.frozen? ⟨g, J * 4 + 2, none⟩ = false ∧ w5.frozen? ⟨g, J * 4 + 3, none⟩ = false := ⟨hE5.frozen _, hE5.frozen _, hE5.frozen _, hE5.frozen _⟩
            have e5 : w5.frozen? ⟨g, I * 4, none⟩ = false ∧ w5.frozen? ⟨g, I * 4 + 1, none⟩ = false ∧ w5.frozen? ⟨g, I * 4 + 2, none⟩ = false ∧ w5.frozen? ⟨g, I * 4 + 3, none⟩ = false := ⟨hE5.frozen _, hE5.frozen _, hE5.frozen _, hE5.frozen _⟩
            obtain ⟨e0_0, e0_1, e0_2, e0_3⟩ := e0
            obtain ⟨e1_0, e1_1, e1_2, e1_3⟩ := e1
            obtain ⟨e4_0, e4_1, e4_2, e4_3⟩ := e4
            obtain ⟨e5_0, e5_1, e5_2, e5_3⟩ := e5
            have r1 : ¬ I * 4 = J * 4 + 1 := by omega
            have t1 : ¬ J * 4 = I * 4 + 1 := by omega
            have r2 : ¬ I * 4 = J * 4 + 2 := by omega
            have t2 : ¬ J * 4 = I * 4 + 2 := by omega
            have r3 : ¬ I * 4 = J * 4 + 3 := by omega
            have t3 : ¬ J * 4 = I * 4 + 3 := by omega
            have n1 : (J : Int) < (n : Int) := by omega
            have n2 : (I : Int) < (n : Int) := by omega
            have n3 : J < n := by omega
            have n4 : I < n := by omega
            have n5 : I ≠ J := by omega
            have n6 : J ≠ I := by omega
            have HE2 := Lib.hid (And.intro hE2 hk2)
            clear hE2 hk2 d1 d0 d2 q2 hf hs
            go_wp2_with fail
            refine (wpIn_wide (n := 0)).1 ?_
            refine wpIn_region_X (l := 0) 15 (S := fun V : World => (V.cell? ⟨g, J * 4, none⟩ = some (Value.int .u64 f0) ∧ V.cell? ⟨g, J * 4 + 1, none⟩ = some (Value.int .u32 f1) ∧ V.cell? ⟨g, J * 4 + 2, none⟩ = some (Value.slice fA fl fc) ∧ V.cell? ⟨g, J * 4 + 3, none⟩ = some (Value.int .u64 f3)) ∧ (V.cell? ⟨g, I * 4, none⟩ = some (Value.int .u64 s0) ∧ V.cell? ⟨g, I * 4 + 1, none⟩ = some (Value.int .u32 s1) ∧ V.cell? ⟨g, I * 4 + 2, none⟩ = some (Value.slice sA sl sc) ∧ V.cell? ⟨g, I * 4 + 3, none⟩ = some (Value.int .u64 s3))) (by kernel_rfl) ⟨⟨e1_0, e1_1, e1_2, e1_3⟩, ⟨e0_0, e0_1, e0_2, e0_3⟩⟩ (fun hS0 => ?_)
            refine wpAnyX_pure (i := 0) (oi := ⟨some 37, _, _, _, _, _⟩) (v := ?_) (by kernel_rfl) (by kernel_rfl) rfl (by kernel_rfl) (by kernel_rfl) (by kernel_rfl) (fun _ _ _ h => h) (Or.inl ⟨by rfl, ?_⟩) (by assumption) ?_
            rotate_left
            · intro w _; go_simp; (try (with_reducible rfl))
            (try simp only [Act.put, List.setIfInBounds_toArray, List.set_cons_zero, List.set_cons_succ])
            refine wpAnyX_pure (i := 1) (oi := ⟨some 38, _, _, _, _, _⟩) (v := ?_) (by kernel_rfl) (by kernel_rfl) rfl (by kernel_rfl) (by kernel_rfl) (by kernel_rfl) (fun _ _ _ h => h) (Or.inl ⟨by rfl, ?_⟩) (by assumption) ?_
            rotate_left
            · intro w _; go_simp; (try (with_reducible rfl))
            (try simp only [Act.put, List.setIfInBounds_toArray, List.set_cons_zero, List.set_cons_succ])
            refine wpAnyX_pure (i := 2) (oi := ⟨some 39, _, _, _, _, _⟩) (v := ?_) (by kernel_rfl) (by kernel_rfl) rfl (by kernel_rfl) (by kernel_rfl) (by kernel_rfl) (fun _ _ _ h => h) (Or.inl ⟨by rfl, ?_⟩) (by assumption) ?_
            rotate_left
            · intro w _; go_simp; (try (with_reducible rfl))
            (try simp only [Act.put, List.setIfInBounds_toArray, List.set_cons_zero, List.set_cons_succ])
            refine wpAnyX_pure (i := 3) (oi := ⟨some 40, _, _, _, _, _⟩) (v := ?_) (by kernel_rfl) (by kernel_rfl) rfl (by kernel_rfl) (by kernel_rfl) (by kernel_rfl) (fun _ _ _ h => h) (Or.inl ⟨by rfl, ?_⟩) (by assumption) ?_
            rotate_left
            · intro w _; go_simp; (try (with_reducible rfl))
            (try simp only [Act.put, List.setIfInBounds_toArray, List.set_cons_zero, List.set_cons_succ])
            refine wpAnyX_pure (i := 4) (oi := ⟨some 41, _, _, _, _, _⟩) (v := ?_) (by kernel_rfl) (by kernel_rfl) rfl (by kernel_rfl) (by kernel_rfl) (by kernel_rfl) (fun _ _ _ h => h) (Or.inl ⟨by rfl, ?_⟩) (by assumption) ?_
            rotate_left
            · intro w _; go_simp; (try (with_reducible rfl))
            (try simp only [Act.put, List.setIfInBounds_toArray, List.set_cons_zero, List.set_cons_succ])
            refine wpAnyX_pure (i := 5) (oi := ⟨some 42, _, _, _, _, _⟩) (v := ?_) (by kernel_rfl) (by kernel_rfl) rfl (by kernel_rfl) (by kernel_rfl) (by kernel_rfl) (fun _ _ _ h => h) (Or.inl ⟨by rfl, ?_⟩) (by assumption) ?_
            rotate_left
            · intro w _; go_simp; (try (with_reducible rfl))
            (try simp only [Act.put, List.setIfInBounds_toArray, List.set_cons_zero, List.set_cons_succ])
            refine wpAnyX_pure (i := 6) (oi := ⟨some 43, _, _, _, _, _⟩) (v := ?_) (by kernel_rfl) (by kernel_rfl) rfl (by kernel_rfl) (by kernel_rfl) (by kernel_rfl) (fun _ _ _ h => h) (Or.inl ⟨by rfl, ?_⟩) (by assumption) ?_
            rotate_left
            · intro w _; go_simp; (try (with_reducible rfl))
            (try simp only [Act.put, List.setIfInBounds_toArray, List.set_cons_zero, List.set_cons_succ])
            refine wpAnyX_pure (i := 7) (oi := ⟨some 44, _, _, _, _, _⟩) (v := ?_) (by kernel_rfl) (by kernel_rfl) rfl (by kernel_rfl) (by kernel_rfl) (by kernel_rfl) (fun _ _ _ h => h) (Or.inl ⟨by rfl, ?_⟩) (by assumption) ?_
            rotate_left
            · intro w _; go_simp; (try (with_reducible rfl))
            (try simp only [Act.put, List.setIfInBounds_toArray, List.set_cons_zero, List.set_cons_succ])
            refine wpAnyX_pure (i := 8) (oi := ⟨some 45, _, _, _, _, _⟩) (v := ?_) (by kernel_rfl) (by kernel_rfl) rfl (by kernel_rfl) (by kernel_rfl) (by kernel_rfl) (fun _ _ _ h => h) (Or.inl ⟨by rfl, ?_⟩) (by assumption) ?_
            rotate_left
            · intro w _; go_simp; (try (with_reducible rfl))
            (try simp only [Act.put, List.setIfInBounds_toArray, List.set_cons_zero, List.set_cons_succ])
            refine wpAnyX_take (i := 9) (oi := ⟨some 46, _, _, _, _, _⟩) (v := ?_) (by kernel_rfl) (by kernel_rfl) (by kernel_rfl) rfl (by kernel_rfl) (by kernel_rfl) (by kernel_rfl) (by kernel_rfl) (fun _ _ _ h => h) (Or.inl ⟨by rfl, ?_⟩) (by assumption) ?_
            rotate_left
            · intro w hSw; (try dsimp only at hSw); (try go_split_ands); go_simp; (try (with_reducible rfl))
            (try simp only [Act.put, List.setIfInBounds_toArray, List.set_cons_zero, List.set_cons_succ])
            refine wpAnyX_pure (i := 10) (oi := ⟨some 47, _, _, _, _, _⟩) (v := ?_) (by kernel_rfl) (by kernel_rfl) rfl (by kernel_rfl) (by kernel_rfl) (by kernel_rfl) (fun _ _ _ h => h) (Or.inl ⟨by rfl, ?_⟩) (by assumption) ?_
            rotate_left
            · intro w _; go_simp; (try (with_reducible rfl))
            (try simp only [Act.put, List.setIfInBounds_toArray, List.set_cons_zero, List.set_cons_succ])
            refine wpAnyX_pure (i := 11) (oi := ⟨some 48, _, _, _, _, _⟩) (v := ?_) (by kernel_rfl) (by kernel_rfl) rfl (by kernel_rfl) (by kernel_rfl) (by kernel_rfl) (fun _ _ _ h => h) (Or.inl ⟨by rfl, ?_⟩) (by assumption) ?_
            rotate_left
            · intro w _; go_simp; (try (with_reducible rfl))
            (try simp only [Act.put, List.setIfInBounds_toArray, List.set_cons_zero, List.set_cons_succ])
            refine wpAnyX_pure (i := 12) (oi := ⟨some 49, _, _, _, _, _⟩) (v := ?_) (by kernel_rfl) (by kernel_rfl) rfl (by kernel_rfl) (by kernel_rfl) (by kernel_rfl) (fun _ _ _ h => h) (Or.inl ⟨by rfl, ?_⟩) (by assumption) ?_
            rotate_left
            · intro w _; go_simp; (try (with_reducible rfl))
            (try simp only [Act.put, List.setIfInBounds_toArray, List.set_cons_zero, List.set_cons_succ])
            refine wpAnyX_take (i := 13) (oi := ⟨some 50, _, _, _, _, _⟩) (v := ?_) (by kernel_rfl) (by kernel_rfl) (by kernel_rfl) rfl (by kernel_rfl) (by kernel_rfl) (by kernel_rfl) (by kernel_rfl) (fun _ _ _ h => h) (Or.inl ⟨by rfl, ?_⟩) (by assumption) ?_
            rotate_left
            · intro w hSw; (try dsimp only at hSw); (try go_split_ands); go_simp; (try (with_reducible rfl))
            (try simp only [Act.put, List.setIfInBounds_toArray, List.set_cons_zero, List.set_cons_succ])
            refine wpAnyX_pure (i := 14) (oi := ⟨some 51, _, _, _, _, _⟩) (v := ?_) (by kernel_rfl) (by kernel_rfl) rfl (by kernel_rfl) (by kernel_rfl) (by kernel_rfl) (fun _ _ _ h => h) (Or.inl ⟨by rfl, ?_⟩) (by assumption) ?_
            rotate_left
            · intro w _; go_simp; (try (with_reducible rfl))
            (try simp only [Act.put, List.setIfInBounds_toArray, List.set_cons_zero, List.set_cons_succ])
            clear hS0
            refine wpAnyX_one (i := 15) (o := ⟨none, _, _, _, _, _⟩) (by kernel_rfl) (by kernel_rfl) rfl (fun K hK => ?_)
            go_simp
            refine hK.out _ _ (.inl (.inl rfl)) ?_
            clear hK K
            (try simp only [Act.put, List.setIfInBounds_toArray, List.set_cons_zero, List.set_cons_succ])
            refine wpAnyX_one (i := 16) (o := ⟨some 52, _, _, _, _, _⟩) (by kernel_rfl) (by kernel_rfl) rfl (fun K hK => ?_)
            go_simp
            refine hK.out _ _ (.inl (.inr rfl)) ?_
            clear hK K
            (try simp only [Act.put, List.setIfInBounds_toArray, List.set_cons_zero, List.set_cons_succ])
            refine wpAnyX_one (i := 17) (o := ⟨none, _, _, _, _, _⟩) (by kernel_rfl) (by kernel_rfl) rfl (fun K hK => ?_)
            go_simp
            refine hK.out _ _ (.inl (.inr rfl)) ?_
            clear hK K
            (try simp only [Act.put, List.setIfInBounds_toArray, List.set_cons_zero, List.set_cons_succ])
            refine wpAnyX_done (by kernel_rfl) ?_ _
            go_wp2
            go_roundw
            case rel =>
              have h6 := HE2.out
              have hxy : Lt cf x y := Lt.of_neg (by rw [hz]; exact hz0)
              have hpw2 := hpw
              rw [huv] at hpw2
              refine ⟨u', y :: v, J, rfl, hJ, by rw [huv]; simp, ?_, ElV.cast (ElV.drew h6.1) (by simp), h6.2.trans (Seq.Kpt.drew _ _) (fun _ _ h => h.elim id id)⟩
              intro t ht
              rcases List.mem_cons.1 ht with ht | ht
              · rw [ht]; exact hxy
              · exact hv t ht
            case measure => simp [intOf]; omega
          ·
            refine wpAnyX_pure (i := 15) (oi := ⟨some 33, _, _, _, _, _⟩) (v := ?_) (by kernel_rfl) (by kernel_rfl) rfl (by kernel_rfl) (by kernel_rfl) (by kernel_rfl) (fun _ _ _ h => h) (Or.inl ⟨by rfl, ?_⟩) (by assumption) ?_
            rotate_left
            · intro w _; go_simp; (try (with_reducible rfl))
            (try simp only [Act.put, List.setIfInBounds_toArray, List.set_cons_zero, List.set_cons_succ])
            refine wpAnyX_pure (i := 16) (oi := ⟨some 34, _, _, _, _, _⟩) (v := ?_) (by kernel_rfl) (by kernel_rfl) rfl (by kernel_rfl) (by kernel_rfl) (by kernel_rfl) (fun _ _ _ h => h) (Or.inl ⟨by rfl, ?_⟩) (by assumption) ?_
            rotate_left
            · intro w _; go_simp; (try (with_reducible rfl))
            (try simp only [Act.put, List.setIfInBounds_toArray, List.set_cons_zero, List.set_cons_succ])
            refine wpAnyX_done (by kernel_rfl) ?_ _
            (try clear c15 c05 c55 c1 c0 hS0 hf hs)
            go_wp2
            go_roundw
            case rel =>
              have hyx : Lt cf y x := Lt.of_not hcf (hxb y (by rw [huv]; simp)) (by rw [hz]; exact hz0)
              have hpu : (u' ++ [y]).Pairwise (Lt cf) := by rw [huv] at hpw; exact (List.pairwise_append.1 hpw).1
              obtain ⟨s2, he2, hp2, hw2⟩ := FIN.out (u' ++ [y]) v huv hv (all_ahead hcf hpu hyx)
              exact ⟨m + 1, im + 1, by go_num, by omega, by omega, by omega, ⟨s2, hp2, hw2, by rw [hR, he2]; exact ElV.cast hE5 (by simp)⟩, hk5⟩
            case measure => simp [intOf]; omega
    · have hlz : ¬ (im : Int) < (b : Int) := by omega
      rw [List.drop_of_length_le (by omega), List.append_nil] at hE
      rw [List.take_of_length_le (by omega)] at hpm
      go_wp2
      go_end0
      exact ⟨rfl, s1, hpm, hpw, hkr, hE.cast (by simp)⟩

set_option maxRecDepth 100000 in
set_option maxHeartbeats 8000000 in
theorem swrV_any (n c a b k g : Nat) (cv : Value) (enc : Nat → List Value) (rest : List Value) (p A m B q : List Nat) (W : World)
    (hx : ElV enc rest g (p ++ A ++ m ++ B ++ q) W) (hp : p.length = a) (hA : A.length = k) (hb : a + k + m.length = b) (hB : B.length = k) (hn : (p ++ A ++ m ++ B ++ q).length = n) (hn2 : n ≤ 5864062014805)
    (hform : ∀ x, ∃ e m A l c d, enc x = [Value.int .u64 e, Value.int .u32 m, Value.slice A l c, Value.int .u64 d]) (hcv : ∃ gc lb, cv = .func (.func gc) #[] lb) :
    Calls Try.prog 90 #[.slice (some ⟨g, 0, none⟩) n c, .int .i64 a, .int .i64 b, .int .i64 k, cv] W fun e W' => e = .returned (.tuple #[]) ∧
      Seq.Kpt (fun i => i = g) W W' ∧ ElV enc rest g (p ++ B ++ m ++ A ++ q) W' := by
  have hlen : b + k + q.length = n := by rw [← hn]; simp; omega
  clear hn
  obtain ⟨gc, lb, rfl⟩ := hcv
  have mixed : Try.prog.follows .mixedOrders = true := by kernel_rfl
  go_enter Try.func90, Try.ntmps90
  go_wp2_with fail
  go_loopw [10] (fun iv wr => ∃ (i : Nat) (A1 A2 B1 B2 : List Nat), iv = .int .i64 (i : Int) ∧ A = A1 ++ A2 ∧ B = B1 ++ B2 ∧ A1.length = i ∧ B1.length = i ∧ ElV enc rest g (p ++ (B1 ++ A2) ++ m ++ (A1 ++ B2) ++ q) wr ∧ Seq.Kpt (fun i => i = g) W wr) (fun iv _ => k - (intOf iv).toNat)
  case atStart => exact ⟨0, [], A, [], B, rfl, rfl, rfl, rfl, rfl, hx.cast (by simp), Seq.Kpt.refl _ _⟩
  case round =>
    obtain ⟨i, A1, A2, B1, B2, rfl, hA12, hB12, hA1, hB1, hE, hk⟩ := hrel
    have lA : A1.length + A2.length = k := by rw [← hA, hA12]; simp
    have lB : B1.length + B2.length = k := by rw [← hB, hB12]; simp
    by_cases hlt : i < k
    · obtain ⟨x, A3, rfl⟩ : ∃ x A3, A2 = x :: A3 := by
        cases A2 with
        | nil => simp at lA; omega
        | cons x A3 => exact ⟨x, A3, rfl⟩
      obtain ⟨y, B3, rfl⟩ : ∃ y B3, B2 = y :: B3 := by
        cases B2 with
        | nil => simp at lB; omega
        | cons y B3 => exact ⟨y, B3, rfl⟩
      have hlz : (i : Int) < (k : Int) := by omega
      obtain ⟨I, hI⟩ : ∃ I : Nat, a + i = I := ⟨_, rfl⟩
      obtain ⟨J, hJ⟩ : ∃ J : Nat, b + i = J := ⟨_, rfl⟩
      have lA3 : A1.length + 1 + A3.length = k := by simp at lA; omega
      have w1 : IntKind.i64.wrap (I : Int) = (I : Int) := by rw [IntKind.wrap_i64]; omega
      have w2 : IntKind.i64.wrap (J : Int) = (J : Int) := by rw [IntKind.wrap_i64]; omega
      have w3 : (a : Int) + (i : Int) = (I : Int) := by omega
      have w4 : (b : Int) + (i : Int) = (J : Int) := by omega
      obtain ⟨f0, f1, fA, fl, fc, f3, hf⟩ := hform x
      obtain ⟨s0, s1, sA, sl, sc, s3, hs⟩ := hform y
      have hsw := ElV.swapLo (x := x) (y := y) (A := p ++ B1) (B := A3 ++ m ++ A1) (C := B3 ++ q) (I := I) (J := J) (hE.cast (by simp)) (by simp; omega) (by simp; omega) hf hs
      obtain ⟨d1, d0, d2, q2, hE2⟩ := hsw
      have hk2 : Seq.Kpt (fun i => i = g) W ((((((((wr.setCell ⟨g, I * 4, none⟩ (Value.int .u64 s0)).setCell ⟨g, I * 4 + 1, none⟩ (Value.int .u32 s1)).setCell ⟨g, I * 4 + 2, none⟩ (Value.slice sA sl sc)).setCell ⟨g, I * 4 + 3, none⟩ (Value.int .u64 s3)).setCell ⟨g, J * 4, none⟩ (Value.int .u64 f0)).setCell ⟨g, J * 4 + 1, none⟩ (Value.int .u32 f1)).setCell ⟨g, J * 4 + 2, none⟩ (Value.slice fA fl fc)).setCell ⟨g, J * 4 + 3, none⟩ (Value.int .u64 f3)) := hk.trans (kpt_put8 _ _ _ _ _ _ _ _ _ _ _ _) (fun _ _ h => h.elim id id)
      have e1 : wr.cell? ⟨g, I * 4, none⟩ = some (Value.int .u64 f0) ∧ wr.cell? ⟨g, I * 4 + 1, none⟩ = some (Value.int .u32 f1) ∧ wr.cell? ⟨g, I * 4 + 2, none⟩ = some (Value.slice fA fl fc) ∧ wr.cell? ⟨g, I * 4 + 3, none⟩ = some (Value.int .u64 f3) := d1
      have e0 : wr.cell? ⟨g, J * 4, none⟩ = some (Value.int .u64 s0) ∧ wr.cell? ⟨g, J * 4 + 1, none⟩ = some (Value.int .u32 s1) ∧ wr.cell? ⟨g, J * 4 + 2, none⟩ = some (Value.slice sA sl sc) ∧ wr.cell? ⟨g, J * 4 + 3, none⟩ = some (Value.int .u64 s3) := d0
      have e4 : wr.frozen? ⟨g, I * 4, none⟩ = false ∧ wr.frozen? ⟨g, I * 4 + 1, none⟩ = false ∧ wr.frozen? ⟨g, I * 4 + 2, none⟩ = false ∧ wr.frozen? ⟨g, I * 4 + 3, none⟩ = false := ⟨hE.frozen _, hE.frozen _, hE.frozen _, hE.frozen _⟩
      have e5 : wr.frozen? ⟨g, J * 4, none⟩ = false ∧ wr.frozen? ⟨g, J * 4 + 1, none⟩ = false ∧ wr.frozen? ⟨g, J * 4 + 2, none⟩ = false ∧ wr.frozen? ⟨g, J * 4 + 3, none⟩ = false := ⟨hE.frozen _, hE.frozen _, hE.frozen _, hE.frozen _⟩
      obtain ⟨e0_0, e0_1, e0_2, e0_3⟩ := e0
      obtain ⟨e1_0, e1_1, e1_2, e1_3⟩ := e1
      obtain ⟨e4_0, e4_1, e4_2, e4_3⟩ := e4
      obtain ⟨e5_0, e5_1, e5_2, e5_3⟩ := e5
      have r1 : ¬ J * 4 = I * 4 + 1 := by omega
      have t1 : ¬ I * 4 = J * 4 + 1 := by omega
      have r2 : ¬ J * 4 = I * 4 + 2 := by omega
      have t2 : ¬ I * 4 = J * 4 + 2 := by omega
      have r3 : ¬ J * 4 = I * 4 + 3 := by omega
      have t3 : ¬ I * 4 = J * 4 + 3 := by omega
      have n1 : (I : Int) < (n : Int) := by omega
      have n2 : (J : Int) < (n : Int) := by omega
      have n3 : I < n := by omega
      have n4 : J < n := by omega
      have n5 : J ≠ I := by omega
      have n6 : I ≠ J := by omega
      have HE2 := Lib.hid (And.intro hE2 hk2)
      clear hE2 hk2 d1 d0 d2 q2 hf hs
      go_wp2_with fail
      refine (wpIn_wide (n := 0)).1 ?_
      refine wpIn_region_X (l := 0) 21 (S := fun V : World => (V.cell? ⟨g, I * 4, none⟩ = some (Value.int .u64 f0) ∧ V.cell? ⟨g, I * 4 + 1, none⟩ = some (Value.int .u32 f1) ∧ V.cell? ⟨g, I * 4 + 2, none⟩ = some (Value.slice fA fl fc) ∧ V.cell? ⟨g, I * 4 + 3, none⟩ = some (Value.int .u64 f3)) ∧ (V.cell? ⟨g, J * 4, none⟩ = some (Value.int .u64 s0) ∧ V.cell? ⟨g, J * 4 + 1, none⟩ = some (Value.int .u32 s1) ∧ V.cell? ⟨g, J * 4 + 2, none⟩ = some (Value.slice sA sl sc) ∧ V.cell? ⟨g, J * 4 + 3, none⟩ = some (Value.int .u64 s3))) (by kernel_rfl) ⟨⟨e1_0, e1_1, e1_2, e1_3⟩, ⟨e0_0, e0_1, e0_2, e0_3⟩⟩ (fun hS0 => ?_)
      refine wpAnyX_pure (i := 0) (oi := ⟨some 16, _, _, _, _, _⟩) (v := ?_) (by kernel_rfl) (by kernel_rfl) rfl (by kernel_rfl) (by kernel_rfl) (by kernel_rfl) (fun _ _ _ h => h) (Or.inl ⟨by rfl, ?_⟩) (by assumption) ?_
      rotate_left
      · intro w _; go_simp; (try (with_reducible rfl))
      (try simp only [Act.put, List.setIfInBounds_toArray, List.set_cons_zero, List.set_cons_succ])
      refine wpAnyX_pure (i := 1) (oi := ⟨some 17, _, _, _, _, _⟩) (v := ?_) (by kernel_rfl) (by kernel_rfl) rfl (by kernel_rfl) (by kernel_rfl) (by kernel_rfl) (fun _ _ _ h => h) (Or.inl ⟨by rfl, ?_⟩) (by assumption) ?_
      rotate_left
      · intro w _; go_simp; (try (with_reducible rfl))
      (try simp only [Act.put, List.setIfInBounds_toArray, List.set_cons_zero, List.set_cons_succ])
      refine wpAnyX_pure (i := 2) (oi := ⟨some 18, _, _, _, _, _⟩) (v := ?_) (by kernel_rfl) (by kernel_rfl) rfl (by kernel_rfl) (by kernel_rfl) (by kernel_rfl) (fun _ _ _ h => h) (Or.inl ⟨by rfl, ?_⟩) (by assumption) ?_
      rotate_left
      · intro w _; go_simp; (try (with_reducible rfl))
      (try simp only [Act.put, List.setIfInBounds_toArray, List.set_cons_zero, List.set_cons_succ])
      refine wpAnyX_pure (i := 3) (oi := ⟨some 19, _, _, _, _, _⟩) (v := ?_) (by kernel_rfl) (by kernel_rfl) rfl (by kernel_rfl) (by kernel_rfl) (by kernel_rfl) (fun _ _ _ h => h) (Or.inl ⟨by rfl, ?_⟩) (by assumption) ?_
      rotate_left
      · intro w _; go_simp; (try (with_reducible rfl))
      (try simp only [Act.put, List.setIfInBounds_toArray, List.set_cons_zero, List.set_cons_succ])
      refine wpAnyX_pure (i := 4) (oi := ⟨some 20, _, _, _, _, _⟩) (v := ?_) (by kernel_rfl) (by kernel_rfl) rfl (by kernel_rfl) (by kernel_rfl) (by kernel_rfl) (fun _ _ _ h => h) (Or.inl ⟨by rfl, ?_⟩) (by assumption) ?_
      rotate_left
      · intro w _; go_simp; (try (with_reducible rfl))
      (try simp only [Act.put, List.setIfInBounds_toArray, List.set_cons_zero, List.set_cons_succ])
      refine wpAnyX_pure (i := 5) (oi := ⟨some 21, _, _, _, _, _⟩) (v := ?_) (by kernel_rfl) (by kernel_rfl) rfl (by kernel_rfl) (by kernel_rfl) (by kernel_rfl) (fun _ _ _ h => h) (Or.inl ⟨by rfl, ?_⟩) (by assumption) ?_
      rotate_left
      · intro w _; go_simp; (try (with_reducible rfl))
      (try simp only [Act.put, List.setIfInBounds_toArray, List.set_cons_zero, List.set_cons_succ])
      refine wpAnyX_pure (i := 6) (oi := ⟨some 22, _, _, _, _, _⟩) (v := ?_) (by kernel_rfl) (by kernel_rfl) rfl (by kernel_rfl) (by kernel_rfl) (by kernel_rfl) (fun _ _ _ h => h) (Or.inl ⟨by rfl, ?_⟩) (by assumption) ?_
      rotate_left
      · intro w _; go_simp; (try (with_reducible rfl))
      (try simp only [Act.put, List.setIfInBounds_toArray, List.set_cons_zero, List.set_cons_succ])
      refine wpAnyX_pure (i := 7) (oi := ⟨some 23, _, _, _, _, _⟩) (v := ?_) (by kernel_rfl) (by kernel_rfl) rfl (by kernel_rfl) (by kernel_rfl) (by kernel_rfl) (fun _ _ _ h => h) (Or.inl ⟨by rfl, ?_⟩) (by assumption) ?_
      rotate_left
      · intro w _; go_simp; (try (with_reducible rfl))
      (try simp only [Act.put, List.setIfInBounds_toArray, List.set_cons_zero, List.set_cons_succ])
      refine wpAnyX_pure (i := 8) (oi := ⟨some 24, _, _, _, _, _⟩) (v := ?_) (by kernel_rfl) (by kernel_rfl) rfl (by kernel_rfl) (by kernel_rfl) (by kernel_rfl) (fun _ _ _ h => h) (Or.inl ⟨by rfl, ?_⟩) (by assumption) ?_
      rotate_left
      · intro w _; go_simp; (try (with_reducible rfl))
      (try simp only [Act.put, List.setIfInBounds_toArray, List.set_cons_zero, List.set_cons_succ])
      refine wpAnyX_pure (i := 9) (oi := ⟨some 25, _, _, _, _, _⟩) (v := ?_) (by kernel_rfl) (by kernel_rfl) rfl (by kernel_rfl) (by kernel_rfl) (by kernel_rfl) (fun _ _ _ h => h) (Or.inl ⟨by rfl, ?_⟩) (by assumption) ?_
      rotate_left
      · intro w _; go_simp; (try (with_reducible rfl))
      (try simp only [Act.put, List.setIfInBounds_toArray, List.set_cons_zero, List.set_cons_succ])
      refine wpAnyX_pure (i := 10) (oi := ⟨some 26, _, _, _, _, _⟩) (v := ?_) (by kernel_rfl) (by kernel_rfl) rfl (by kernel_rfl) (by kernel_rfl) (by kernel_rfl) (fun _ _ _ h => h) (Or.inl ⟨by rfl, ?_⟩) (by assumption) ?_
      rotate_left
      · intro w _; go_simp; (try (with_reducible rfl))
      (try simp only [Act.put, List.setIfInBounds_toArray, List.set_cons_zero, List.set_cons_succ])
      refine wpAnyX_pure (i := 11) (oi := ⟨some 27, _, _, _, _, _⟩) (v := ?_) (by kernel_rfl) (by kernel_rfl) rfl (by kernel_rfl) (by kernel_rfl) (by kernel_rfl) (fun _ _ _ h => h) (Or.inl ⟨by rfl, ?_⟩) (by assumption) ?_
      rotate_left
      · intro w _; go_simp; (try (with_reducible rfl))
      (try simp only [Act.put, List.setIfInBounds_toArray, List.set_cons_zero, List.set_cons_succ])
      refine wpAnyX_pure (i := 12) (oi := ⟨some 28, _, _, _, _, _⟩) (v := ?_) (by kernel_rfl) (by kernel_rfl) rfl (by kernel_rfl) (by kernel_rfl) (by kernel_rfl) (fun _ _ _ h => h) (Or.inl ⟨by rfl, ?_⟩) (by assumption) ?_
      rotate_left
      · intro w _; go_simp; (try (with_reducible rfl))
      (try simp only [Act.put, List.setIfInBounds_toArray, List.set_cons_zero, List.set_cons_succ])
      refine wpAnyX_take (i := 13) (oi := ⟨some 29, _, _, _, _, _⟩) (v := ?_) (by kernel_rfl) (by kernel_rfl) (by kernel_rfl) rfl (by kernel_rfl) (by kernel_rfl) (by kernel_rfl) (by kernel_rfl) (fun _ _ _ h => h) (Or.inl ⟨by rfl, ?_⟩) (by assumption) ?_
      rotate_left
      · intro w hSw; (try dsimp only at hSw); (try go_split_ands); go_simp; (try (with_reducible rfl))
      (try simp only [Act.put, List.setIfInBounds_toArray, List.set_cons_zero, List.set_cons_succ])
      refine wpAnyX_pure (i := 14) (oi := ⟨some 30, _, _, _, _, _⟩) (v := ?_) (by kernel_rfl) (by kernel_rfl) rfl (by kernel_rfl) (by kernel_rfl) (by kernel_rfl) (fun _ _ _ h => h) (Or.inl ⟨by rfl, ?_⟩) (by assumption) ?_
      rotate_left
      · intro w _; go_simp; (try (with_reducible rfl))
      (try simp only [Act.put, List.setIfInBounds_toArray, List.set_cons_zero, List.set_cons_succ])
      refine wpAnyX_pure (i := 15) (oi := ⟨some 31, _, _, _, _, _⟩) (v := ?_) (by kernel_rfl) (by kernel_rfl) rfl (by kernel_rfl) (by kernel_rfl) (by kernel_rfl) (fun _ _ _ h => h) (Or.inl ⟨by rfl, ?_⟩) (by assumption) ?_
      rotate_left
      · intro w _; go_simp; (try (with_reducible rfl))
      (try simp only [Act.put, List.setIfInBounds_toArray, List.set_cons_zero, List.set_cons_succ])
      refine wpAnyX_pure (i := 16) (oi := ⟨some 32, _, _, _, _, _⟩) (v := ?_) (by kernel_rfl) (by kernel_rfl) rfl (by kernel_rfl) (by kernel_rfl) (by kernel_rfl) (fun _ _ _ h => h) (Or.inl ⟨by rfl, ?_⟩) (by assumption) ?_
      rotate_left
      · intro w _; go_simp; (try (with_reducible rfl))
      (try simp only [Act.put, List.setIfInBounds_toArray, List.set_cons_zero, List.set_cons_succ])
      refine wpAnyX_pure (i := 17) (oi := ⟨some 33, _, _, _, _, _⟩) (v := ?_) (by kernel_rfl) (by kernel_rfl) rfl (by kernel_rfl) (by kernel_rfl) (by kernel_rfl) (fun _ _ _ h => h) (Or.inl ⟨by rfl, ?_⟩) (by assumption) ?_
      rotate_left
      · intro w _; go_simp; (try (with_reducible rfl))
      (try simp only [Act.put, List.setIfInBounds_toArray, List.set_cons_zero, List.set_cons_succ])
      refine wpAnyX_pure (i := 18) (oi := ⟨some 34, _, _, _, _, _⟩) (v := ?_) (by kernel_rfl) (by kernel_rfl) rfl (by kernel_rfl) (by kernel_rfl) (by kernel_rfl) (fun _ _ _ h => h) (Or.inl ⟨by rfl, ?_⟩) (by assumption) ?_
      rotate_left
      · intro w _; go_simp; (try (with_reducible rfl))
      (try simp only [Act.put, List.setIfInBounds_toArray, List.set_cons_zero, List.set_cons_succ])
      refine wpAnyX_take (i := 19) (oi := ⟨some 35, _, _, _, _, _⟩) (v := ?_) (by kernel_rfl) (by kernel_rfl) (by kernel_rfl) rfl (by kernel_rfl) (by kernel_rfl) (by kernel_rfl) (by kernel_rfl) (fun _ _ _ h => h) (Or.inl ⟨by rfl, ?_⟩) (by assumption) ?_
      rotate_left
      · intro w hSw; (try dsimp only at hSw); (try go_split_ands); go_simp; (try (with_reducible rfl))
      (try simp only [Act.put, List.setIfInBounds_toArray, List.set_cons_zero, List.set_cons_succ])
      refine wpAnyX_pure (i := 20) (oi := ⟨some 36, _, _, _, _, _⟩) (v := ?_) (by kernel_rfl) (by kernel_rfl) rfl (by kernel_rfl) (by kernel_rfl) (by kernel_rfl) (fun _ _ _ h => h) (Or.inl ⟨by rfl, ?_⟩) (by assumption) ?_
      rotate_left
      · intro w _; go_simp; (try (with_reducible rfl))
      (try simp only [Act.put, List.setIfInBounds_toArray, List.set_cons_zero, List.set_cons_succ])
      clear hS0
      refine wpAnyX_one (i := 21) (o := ⟨none, _, _, _, _, _⟩) (by kernel_rfl) (by kernel_rfl) rfl (fun K hK => ?_)
      go_simp
      refine hK.out _ _ (.inl (.inl rfl)) ?_
      clear hK K
      (try simp only [Act.put, List.setIfInBounds_toArray, List.set_cons_zero, List.set_cons_succ])
      refine wpAnyX_one (i := 22) (o := ⟨some 37, _, _, _, _, _⟩) (by kernel_rfl) (by kernel_rfl) rfl (fun K hK => ?_)
      go_simp
      refine hK.out _ _ (.inl (.inr rfl)) ?_
      clear hK K
      (try simp only [Act.put, List.setIfInBounds_toArray, List.set_cons_zero, List.set_cons_succ])
      refine wpAnyX_one (i := 23) (o := ⟨none, _, _, _, _, _⟩) (by kernel_rfl) (by kernel_rfl) rfl (fun K hK => ?_)
      go_simp
      refine hK.out _ _ (.inl (.inr rfl)) ?_
      clear hK K
      (try simp only [Act.put, List.setIfInBounds_toArray, List.set_cons_zero, List.set_cons_succ])
      refine wpAnyX_done (by kernel_rfl) ?_ _
      go_wp2
      go_roundw
      case rel => exact ⟨i + 1, A1 ++ [x], A3, B1 ++ [y], B3, by go_num, by rw [hA12]; simp, by rw [hB12]; simp, by simp; omega, by simp; omega, ElV.cast (ElV.drew HE2.out.1) (by simp), HE2.out.2.trans (Seq.Kpt.drew _ _) (fun _ _ h => h.elim id id)⟩
      case measure => simp [intOf]; omega
    · have hlz : ¬ (i : Int) < (k : Int) := by omega
      obtain rfl : A2 = [] := List.eq_nil_of_length_eq_zero (by omega)
      obtain rfl : B2 = [] := List.eq_nil_of_length_eq_zero (by omega)
      rw [List.append_nil] at hA12 hB12
      subst hA12 hB12
      go_wp2
      go_end0
      exact ⟨rfl, hk, hE.cast (by simp)⟩
end Go.Proofs.Ytghblnldokpceaa.QV
/- slices.SortStableFunc over versions, walked: rotate. -/
namespace Go.Proofs.Ytghblnldokpceaa.QV
open Go.RowKit Go.Proofs.YtghblnldokpceaaW.PrintWords Go.Proofs.Ytghblnldokpceaa.SeqW Go.Proofs.Ytghblnldokpceaa.SeqX Go.Shelf Go.Proofs.Ytghblnldokpceaa.Op Go.Proofs.Ytghblnldokpceaa.Stab
set_option linter.unusedVariables false
set_option linter.unusedSimpArgs false

set_option maxRecDepth 100000 in
set_option maxHeartbeats 2000000 in
theorem rotV_any (n c a m b g : Nat) (cv : Value) (enc : Nat → List Value) (rest : List Value) (p U V q : List Nat) (W : World)
    (hx : ElV enc rest g (p ++ U ++ V ++ q) W) (hp : p.length = a) (hU : a + U.length = m) (hV : m + V.length = b) (hU0 : 0 < U.length) (hV0 : 0 < V.length) (hn : (p ++ U ++ V ++ q).length = n) (hn2 : n ≤ 5864062014805)
    (hform : ∀ x, ∃ e m A l c d, enc x = [Value.int .u64 e, Value.int .u32 m, Value.slice A l c, Value.int .u64 d]) (hcv : ∃ gc lb, cv = .func (.func gc) #[] lb) :
    Calls Try.prog 88 #[.slice (some ⟨g, 0, none⟩) n c, .int .i64 a, .int .i64 m, .int .i64 b, cv] W fun e W' => e = .returned (.tuple #[]) ∧
      Seq.Kpt (fun i => i = g) W W' ∧ ElV enc rest g (p ++ V ++ U ++ q) W' := by
  have hlen : b + q.length = n := by rw [← hn]; simp; omega
  clear hn
  have HCV := Lib.hid hcv
  obtain ⟨gc, lb, rfl⟩ := hcv
  have hi0 : (m : Int) - (a : Int) = (U.length : Int) := by omega
  have hj0 : (b : Int) - (m : Int) = (V.length : Int) := by omega
  have wi0 : IntKind.i64.wrap (U.length : Int) = (U.length : Int) := by rw [IntKind.wrap_i64]; omega
  have wj0 : IntKind.i64.wrap (V.length : Int) = (V.length : Int) := by rw [IntKind.wrap_i64]; omega
  go_enter Try.func88, Try.ntmps88
  go_wp2_with fail
  go_loopw [10, 11] (fun iv jv wr => ∃ (i j : Nat) (P U' V' Q : List Nat), iv = .int .i64 (i : Int) ∧ jv = .int .i64 (j : Int) ∧ U'.length = i ∧ V'.length = j ∧ 0 < i ∧ 0 < j ∧ P.length + i = m ∧ m + j + Q.length = n ∧ ElV enc rest g (P ++ U' ++ V' ++ Q) wr ∧ P ++ V' ++ U' ++ Q = p ++ V ++ U ++ q ∧ Seq.Kpt (fun i => i = g) W wr) (fun iv jv _ => (intOf iv).toNat + (intOf jv).toNat)
  case atStart => exact ⟨U.length, V.length, p, U, V, q, rfl, rfl, rfl, rfl, hU0, hV0, by omega, by omega, hx, rfl, Seq.Kpt.refl _ _⟩
  case round =>
    obtain ⟨i, j, P, U', V', Q, rfl, rfl, hUl, hVl, hi, hj, hPm, hmn, hE, hT, hk⟩ := hrel
    clear hi0 hj0 wi0 wj0
    obtain ⟨s0, hs0⟩ : ∃ s0 : Nat, m - i = s0 := ⟨_, rfl⟩
    have w1 : (m : Int) - (i : Int) = (s0 : Int) := by omega
    have w2 : IntKind.i64.wrap (s0 : Int) = (s0 : Int) := by rw [IntKind.wrap_i64]; omega
    by_cases hij : i = j
    · subst hij
      have hne : ((i : Int) != (i : Int)) = false := by simp
      go_wp2_with fail
      refine (swrV_any n c s0 m i g _ enc rest P U' [] V' Q wr (hE.cast (by simp)) (by omega) hUl (by simp; omega) hVl (by simp; omega) hn2 hform ⟨gc, lb, rfl⟩).mono ?_
      rintro e w2 ⟨rfl, hk2, hE2⟩
      go_wp2
      go_end0
      exact ⟨rfl, hk.trans hk2 (fun _ _ h => h.elim id id), hE2.cast (by simpa using hT)⟩
    · have hne : (i : Int) ≠ (j : Int) := by omega
      by_cases hgt : i > j
      · have hgz : (j : Int) < (i : Int) := by omega
        obtain ⟨d, hd⟩ : ∃ d : Nat, i - j = d := ⟨_, rfl⟩
        have w3 : (i : Int) - (j : Int) = (d : Int) := by omega
        have w4 : IntKind.i64.wrap (d : Int) = (d : Int) := by rw [IntKind.wrap_i64]; omega
        obtain ⟨A, R, hAR, hAl⟩ : ∃ A R, U' = A ++ R ∧ A.length = j := ⟨U'.take j, U'.drop j, (List.take_append_drop _ _).symm, by rw [List.length_take]; omega⟩
        have hRl : R.length = d := by rw [hAR] at hUl; simp at hUl; omega
        subst hAR
        go_wp2_with fail
        refine (swrV_any n c s0 m j g _ enc rest P A R V' Q wr (hE.cast (by simp)) (by omega) hAl (by omega) hVl (by simp; omega) hn2 hform ⟨gc, lb, rfl⟩).mono ?_
        rintro e w2 ⟨rfl, hk2, hE2⟩
        go_wp2
        go_roundw
        case rel => exact ⟨d, j, P ++ V', R, A, Q, rfl, rfl, hRl, hAl, by omega, hj, by simp; omega, by omega, hE2.cast (by simp), by rw [← hT]; simp, hk.trans hk2 (fun _ _ h => h.elim id id)⟩
        case measure => simp [intOf]; omega
      · have hgz : ¬ (j : Int) < (i : Int) := by omega
        obtain ⟨d, hd⟩ : ∃ d : Nat, j - i = d := ⟨_, rfl⟩
        have w3 : (j : Int) - (i : Int) = (d : Int) := by omega
        have w4 : IntKind.i64.wrap (d : Int) = (d : Int) := by rw [IntKind.wrap_i64]; omega
        obtain ⟨t0, ht0⟩ : ∃ t0 : Nat, m + j = t0 := ⟨_, rfl⟩
        have w5 : (m : Int) + (j : Int) = (t0 : Int) := by omega
        have w6 : IntKind.i64.wrap (t0 : Int) = (t0 : Int) := by rw [IntKind.wrap_i64]; omega
        obtain ⟨t1, ht1⟩ : ∃ t1 : Nat, t0 - i = t1 := ⟨_, rfl⟩
        have w7 : (t0 : Int) - (i : Int) = (t1 : Int) := by omega
        have w8 : IntKind.i64.wrap (t1 : Int) = (t1 : Int) := by rw [IntKind.wrap_i64]; omega
        obtain ⟨R, B, hRB, hRl⟩ : ∃ R B, V' = R ++ B ∧ R.length = d := ⟨V'.take d, V'.drop d, (List.take_append_drop _ _).symm, by rw [List.length_take]; omega⟩
        have hBl : B.length = i := by rw [hRB] at hVl; simp at hVl; omega
        subst hRB
        go_wp2_with fail
        refine (swrV_any n c s0 t1 i g _ enc rest P U' R B Q wr (hE.cast (by simp)) (by omega) hUl (by omega) hBl (by simp; omega) hn2 hform ⟨gc, lb, rfl⟩).mono ?_
        rintro e w2 ⟨rfl, hk2, hE2⟩
        go_wp2
        go_roundw
        case rel => exact ⟨i, d, P, B, R, U' ++ Q, rfl, rfl, hBl, hRl, hi, by omega, hPm, by simp; omega, hE2.cast (by simp), by rw [← hT]; simp, hk.trans hk2 (fun _ _ h => h.elim id id)⟩
        case measure => simp [intOf]; omega
end Go.Proofs.Ytghblnldokpceaa.QV
/- slices.SortStableFunc over versions, walked: symMerge. -/
namespace Go.Proofs.Ytghblnldokpceaa.QV
open Go.RowKit Go.Proofs.YtghblnldokpceaaW.PrintWords Go.Proofs.Ytghblnldokpceaa.SeqW Go.Proofs.Ytghblnldokpceaa.SeqX Go.Shelf Go.Proofs.Ytghblnldokpceaa.Op Go.Proofs.Ytghblnldokpceaa.Stab
set_option linter.unusedVariables false
set_option linter.unusedSimpArgs false

set_option maxRecDepth 100000 in
set_option maxHeartbeats 4000000 in
theorem symV_one (g n c : Nat) (cf : Nat → Nat → Int) (gc : Nat) (lb : Array Value) (hcf : CmpOk cf) (enc : Nat → List Value) (rest : List Value) (w0 : World) (hn2 : n ≤ 5864062014805)
    (hcmp : CmpAtV cf enc gc lb g w0) (eg : ∀ args w, (callFunc gc args).run Try.prog w = .ok (.enter gc args) w) (hform : ∀ x, ∃ e m A l c d, enc x = [Value.int .u64 e, Value.int .u32 m, Value.slice A l c, Value.int .u64 d])
    (a m b : Nat) (p R q : List Nat) (x : Nat) (W : World) (hx : ElV enc rest g (p ++ [x] ++ R ++ q) W) (hp : p.length = a) (hm : a + 1 = m) (hR : m + R.length = b) (hq : b + q.length = n)
    (hRs : R.Pairwise (Lt cf)) (hLR : ∀ y ∈ R, x < y) (hk : Seq.Kpt (fun i => i = g) w0 W) :
    Calls Try.prog 82 #[.slice (some ⟨g, 0, none⟩) n c, .int .i64 a, .int .i64 m, .int .i64 b, .func (.func gc) #[] lb] W fun e W' => e = .returned (.tuple #[]) ∧
        ∃ S, S.Perm ([x] ++ R) ∧ S.Pairwise (Lt cf) ∧ Seq.Kpt (fun i => i = g) W W' ∧ ElV enc rest g (p ++ S ++ q) W' := by
  have mixed : Try.prog.follows .mixedOrders = true := by kernel_rfl
  have e1 : (m : Int) - (a : Int) = 1 := by omega
  have e2 : IntKind.i64.wrap 1 = 1 := by rfl
  have an : a < n := by omega
  have anz : (a : Int) < (n : Int) := by omega
  have hE := hx.cast (ys := p ++ x :: (R ++ q)) (by simp)
  go_enter Try.func82, Try.ntmps82
  go_wp2_with fail
  go_loopw [10, 11] (fun iv jv wr => ∃ (i j : Nat), iv = .int .i64 (i : Int) ∧ jv = .int .i64 (j : Int) ∧ m ≤ i ∧ i ≤ j ∧ j ≤ b ∧ (∀ y ∈ R.take (i - m), Lt cf y x) ∧ (∀ y ∈ R.drop (j - m), Lt cf x y) ∧ ElV enc rest g (p ++ x :: (R ++ q)) wr ∧ Seq.Kpt (fun i => i = g) W wr) (fun iv jv _ => (intOf jv).toNat - (intOf iv).toNat)
  case atStart => exact ⟨m, b, rfl, rfl, Nat.le_refl _, by omega, Nat.le_refl _, by simp, by rw [List.drop_of_length_le (by omega)]; simp, hE, Seq.Kpt.refl _ _⟩
  case round =>
    obtain ⟨i, j, rfl, rfl, hmi, hij, hjb, hF1, hF2, hEr, hkr⟩ := hrel
    by_cases hlt : i < j
    · have hlz : (i : Int) < (j : Int) := by omega
      obtain ⟨s, hs⟩ : ∃ s : Nat, i + j = s := ⟨_, rfl⟩
      obtain ⟨h, hh⟩ : ∃ h : Nat, s / 2 = h := ⟨_, rfl⟩
      have w1 : (i : Int) + (j : Int) = (s : Int) := by omega
      have w2 : IntKind.i64.wrap (s : Int) = (s : Int) := wrapN (by omega)
      have w3 : (s : Int) / 2 = (h : Int) := by omega
      have w4 : (h : Int) < (n : Int) := by omega
      have w4' : h < n := by omega
      obtain ⟨e, he0, he1, he2⟩ := at_mid (s := R) (k := h - m) (by omega)
      obtain ⟨T, hT⟩ : ∃ T, R.take (h - m) = T := ⟨_, rfl⟩
      obtain ⟨D, hD⟩ : ∃ D, R.drop (h - m + 1) = D := ⟨_, rfl⟩
      rw [hT, hD] at he0
      have hTl : T.length = h - m := by rw [← hT, List.length_take]; omega
      have hEe := hEr.cast (ys := p ++ x :: (T ++ e :: D ++ q)) (by rw [← he0])
      have HE0 := Lib.hid (And.intro he0 (And.intro he1 he2))
      have HTD := Lib.hid (And.intro hT hD)
      clear he0 he1 he2 hT hD
      obtain ⟨f0, f1, fA, fl, fc, f3, hf⟩ := hform e
      obtain ⟨s0, s1, sA, sl, sc, s3, hs⟩ := hform x
      have c1 := (hEe.cast (ys := (p ++ x :: T) ++ e :: (D ++ q)) (by simp)).at (i := h) (by first | omega | (simp; omega)) hf
      have c0 := (hEe.cast (ys := p ++ x :: (T ++ e :: (D ++ q))) (by simp)).at (i := a) (by first | omega | (simp; omega)) hs
      obtain ⟨z, hz⟩ : ∃ z, cf e x = z := ⟨_, rfl⟩
      go_wp2_with fail
      refine (wpIn_wide (n := 0)).1 ?_
      refine wpIn_region_X (l := 0) 11 (S := fun V : World => (V.cell? ⟨g, h * 4, none⟩ = some (Value.int .u64 f0) ∧ V.cell? ⟨g, h * 4 + 1, none⟩ = some (Value.int .u32 f1) ∧ V.cell? ⟨g, h * 4 + 2, none⟩ = some (Value.slice fA fl fc) ∧ V.cell? ⟨g, h * 4 + 3, none⟩ = some (Value.int .u64 f3)) ∧ (V.cell? ⟨g, a * 4, none⟩ = some (Value.int .u64 s0) ∧ V.cell? ⟨g, a * 4 + 1, none⟩ = some (Value.int .u32 s1) ∧ V.cell? ⟨g, a * 4 + 2, none⟩ = some (Value.slice sA sl sc) ∧ V.cell? ⟨g, a * 4 + 3, none⟩ = some (Value.int .u64 s3))) (by kernel_rfl) ⟨c1, c0⟩ (fun hS0 => ?_)
      refine wpAnyX_pure (i := 0) (oi := ⟨some 40, _, _, _, _, _⟩) (v := ?_) (by kernel_rfl) (by kernel_rfl) rfl (by kernel_rfl) (by kernel_rfl) (by kernel_rfl) (fun _ _ _ h => h) (Or.inl ⟨by rfl, ?_⟩) (by assumption) ?_
      rotate_left
      · intro w _; go_simp; (try (with_reducible rfl))
      (try simp only [Act.put, List.setIfInBounds_toArray, List.set_cons_zero, List.set_cons_succ])
      refine wpAnyX_pure (i := 1) (oi := ⟨some 41, _, _, _, _, _⟩) (v := ?_) (by kernel_rfl) (by kernel_rfl) rfl (by kernel_rfl) (by kernel_rfl) (by kernel_rfl) (fun _ _ _ h => h) (Or.inl ⟨by rfl, ?_⟩) (by assumption) ?_
      rotate_left
      · intro w _; go_simp; (try (with_reducible rfl))
      (try simp only [Act.put, List.setIfInBounds_toArray, List.set_cons_zero, List.set_cons_succ])
      refine wpAnyX_pure (i := 2) (oi := ⟨some 42, _, _, _, _, _⟩) (v := ?_) (by kernel_rfl) (by kernel_rfl) rfl (by kernel_rfl) (by kernel_rfl) (by kernel_rfl) (fun _ _ _ h => h) (Or.inl ⟨by rfl, ?_⟩) (by assumption) ?_
      rotate_left
      · intro w _; go_simp; (try (with_reducible rfl))
      (try simp only [Act.put, List.setIfInBounds_toArray, List.set_cons_zero, List.set_cons_succ])
      refine wpAnyX_pure (i := 3) (oi := ⟨some 43, _, _, _, _, _⟩) (v := ?_) (by kernel_rfl) (by kernel_rfl) rfl (by kernel_rfl) (by kernel_rfl) (by kernel_rfl) (fun _ _ _ h => h) (Or.inl ⟨by rfl, ?_⟩) (by assumption) ?_
      rotate_left
      · intro w _; go_simp; (try (with_reducible rfl))
      (try simp only [Act.put, List.setIfInBounds_toArray, List.set_cons_zero, List.set_cons_succ])
      refine wpAnyX_take (i := 4) (oi := ⟨some 44, _, _, _, _, _⟩) (v := ?_) (by kernel_rfl) (by kernel_rfl) (by kernel_rfl) rfl (by kernel_rfl) (by kernel_rfl) (by kernel_rfl) (by kernel_rfl) (fun _ _ _ h => h) (Or.inl ⟨by rfl, ?_⟩) (by assumption) ?_
      rotate_left
      · intro w hSw; (try dsimp only at hSw); (try go_split_ands); go_simp; (try (with_reducible rfl))
      (try simp only [Act.put, List.setIfInBounds_toArray, List.set_cons_zero, List.set_cons_succ])
      refine wpAnyX_pure (i := 5) (oi := ⟨some 45, _, _, _, _, _⟩) (v := ?_) (by kernel_rfl) (by kernel_rfl) rfl (by kernel_rfl) (by kernel_rfl) (by kernel_rfl) (fun _ _ _ h => h) (Or.inl ⟨by rfl, ?_⟩) (by assumption) ?_
      rotate_left
      · intro w _; go_simp; (try (with_reducible rfl))
      (try simp only [Act.put, List.setIfInBounds_toArray, List.set_cons_zero, List.set_cons_succ])
      refine wpAnyX_pure (i := 6) (oi := ⟨some 46, _, _, _, _, _⟩) (v := ?_) (by kernel_rfl) (by kernel_rfl) rfl (by kernel_rfl) (by kernel_rfl) (by kernel_rfl) (fun _ _ _ h => h) (Or.inl ⟨by rfl, ?_⟩) (by assumption) ?_
      rotate_left
      · intro w _; go_simp; (try (with_reducible rfl))
      (try simp only [Act.put, List.setIfInBounds_toArray, List.set_cons_zero, List.set_cons_succ])
      refine wpAnyX_pure (i := 7) (oi := ⟨some 47, _, _, _, _, _⟩) (v := ?_) (by kernel_rfl) (by kernel_rfl) rfl (by kernel_rfl) (by kernel_rfl) (by kernel_rfl) (fun _ _ _ h => h) (Or.inl ⟨by rfl, ?_⟩) (by assumption) ?_
      rotate_left
      · intro w _; go_simp; (try (with_reducible rfl))
      (try simp only [Act.put, List.setIfInBounds_toArray, List.set_cons_zero, List.set_cons_succ])
      refine wpAnyX_take (i := 8) (oi := ⟨some 48, _, _, _, _, _⟩) (v := ?_) (by kernel_rfl) (by kernel_rfl) (by kernel_rfl) rfl (by kernel_rfl) (by kernel_rfl) (by kernel_rfl) (by kernel_rfl) (fun _ _ _ h => h) (Or.inl ⟨by rfl, ?_⟩) (by assumption) ?_
      rotate_left
      · intro w hSw; (try dsimp only at hSw); (try go_split_ands); go_simp; (try (with_reducible rfl))
      (try simp only [Act.put, List.setIfInBounds_toArray, List.set_cons_zero, List.set_cons_succ])
      refine wpAnyX_one (i := 9) (o := ⟨some 49, _, _, _, _, _⟩) (by kernel_rfl) (by kernel_rfl) rfl (fun K hK => ?_)
      go_simp
      have hcc := hcmp e x wr.drew ((hk.trans hkr (fun _ _ h => h.elim id id)).trans (Seq.Kpt.drew _ _) (fun _ _ h => h.elim id id))
      rw [hf, hs, hz] at hcc
      refine hcc.mono ?_
      rintro e w5 ⟨rfl, hb5⟩
      clear hcc
      have hb5' : Below wr.heap.size wr w5 := (below_drew (Below.refl _ wr)).trans hb5
      have hE5 := ElV.kept hEe hb5'
      have hk5 := hkr.trans (Seq.Kpt.of_new (fun i => i = g) hb5') (fun _ _ h => h.elim id id)
      have c15 := (hE5.cast (ys := (p ++ x :: T) ++ e :: (D ++ q)) (by simp)).at (i := h) (by first | omega | (simp; omega)) hf
      have c05 := (hE5.cast (ys := p ++ x :: (T ++ e :: (D ++ q))) (by simp)).at (i := a) (by first | omega | (simp; omega)) hs
      have c55 := And.intro c15 c05
      (try dsimp only)
      refine hK.out _ _ (.inr c55) ?_
      clear hK K
      (try simp only [Act.put, List.setIfInBounds_toArray, List.set_cons_zero, List.set_cons_succ])
      by_cases hz0 : z < 0
      ·
        refine wpAnyX_pure (i := 10) (oi := ⟨some 50, _, _, _, _, _⟩) (v := ?_) (by kernel_rfl) (by kernel_rfl) rfl (by kernel_rfl) (by kernel_rfl) (by kernel_rfl) (fun _ _ _ h => h) (Or.inl ⟨by rfl, ?_⟩) (by assumption) ?_
        rotate_left
        · intro w _; go_simp; (try (with_reducible rfl))
        (try simp only [Act.put, List.setIfInBounds_toArray, List.set_cons_zero, List.set_cons_succ])
        refine wpAnyX_done (by kernel_rfl) ?_ _
        (try clear c15 c05 c55 c1 c0 hS0 hf hs)
        go_wp2
        go_roundw
        case rel =>
          refine ⟨h + 1, j, by go_num, rfl, by omega, by omega, hjb, ?_, hF2, ElV.cast hE5 (by rw [HE0.out.1]), hk5⟩
          rw [show h + 1 - m = h - m + 1 by omega, HE0.out.2.2]
          refine all_ahead hcf ?_ (Lt.of_neg (by rw [hz]; exact hz0))
          rw [← HE0.out.2.2]
          exact pw_take hRs _
        case measure => simp [intOf]; omega
      ·
        refine wpAnyX_pure (i := 10) (oi := ⟨some 50, _, _, _, _, _⟩) (v := ?_) (by kernel_rfl) (by kernel_rfl) rfl (by kernel_rfl) (by kernel_rfl) (by kernel_rfl) (fun _ _ _ h => h) (Or.inl ⟨by rfl, ?_⟩) (by assumption) ?_
        rotate_left
        · intro w _; go_simp; (try (with_reducible rfl))
        (try simp only [Act.put, List.setIfInBounds_toArray, List.set_cons_zero, List.set_cons_succ])
        refine wpAnyX_done (by kernel_rfl) ?_ _
        (try clear c15 c05 c55 c1 c0 hS0 hf hs)
        go_wp2
        go_roundw
        case rel =>
          refine ⟨i, h, rfl, by go_num, hmi, by omega, by omega, hF1, ?_, ElV.cast hE5 (by rw [HE0.out.1]), hk5⟩
          rw [HE0.out.2.1]
          refine all_behind hcf ?_ (Lt.of_not hcf (hLR e (by rw [HE0.out.1]; simp)) (by rw [hz]; exact hz0))
          rw [← HE0.out.2.1]
          exact pw_drop hRs _
        case measure => simp [intOf]; omega
    · obtain rfl : i = j := by omega
      have hlz : ¬ (i : Int) < (i : Int) := by omega
      clear hlt
      obtain ⟨i1, hi1⟩ : ∃ i1 : Nat, i - 1 = i1 := ⟨_, rfl⟩
      have w1 : (i : Int) - 1 = (i1 : Int) := by omega
      have w2 : IntKind.i64.wrap (i1 : Int) = (i1 : Int) := wrapN (by omega)
      obtain ⟨R1, hR1⟩ : ∃ R1, R.take (i - m) = R1 := ⟨_, rfl⟩
      obtain ⟨R2, hR2⟩ : ∃ R2, R.drop (i - m) = R2 := ⟨_, rfl⟩
      have hR12 : R1 ++ R2 = R := by rw [← hR1, ← hR2, List.take_append_drop]
      have hR1l : R1.length = i - m := by rw [← hR1, List.length_take]; omega
      rw [hR1] at hF1
      rw [hR2] at hF2
      have hE1 := hEr.cast (ys := p ++ x :: (R1 ++ R2 ++ q)) (by rw [hR12])
      have HR12 := Lib.hid hR12
      clear hR1 hR2 hR12
      go_wp2_with fail
      go_loopw [13] (fun kv wq => ∃ (k : Nat) (A B : List Nat), kv = .int .i64 (k : Int) ∧ R1 = A ++ B ∧ a + A.length = k ∧ ElV enc rest g (p ++ (A ++ x :: B) ++ (R2 ++ q)) wq ∧ Seq.Kpt (fun i => i = g) W wq) (fun kv _ => i1 - (intOf kv).toNat)
      case atStart => exact ⟨a, [], R1, rfl, rfl, rfl, hE1.cast (by simp), hkr⟩
      case round =>
        obtain ⟨k, A, B, rfl, hAB, hAk, hEk, hkk⟩ := hrel
        have hABl : A.length + B.length = i - m := by rw [← hR1l, hAB]; simp
        by_cases hkl : k < i1
        · have hkz : (k : Int) < (i1 : Int) := by omega
          obtain ⟨y, B', rfl⟩ : ∃ y B', B = y :: B' := by
            cases B with
            | nil => simp at hABl; omega
            | cons y B' => exact ⟨y, B', rfl⟩
          obtain ⟨J, hJ⟩ : ∃ J : Nat, k + 1 = J := ⟨_, rfl⟩
          have w5 : (k : Int) + 1 = (J : Int) := by omega
          have w6 : IntKind.i64.wrap (J : Int) = (J : Int) := wrapN (by omega)
          obtain ⟨f0, f1, fA, fl, fc, f3, hf⟩ := hform x
          obtain ⟨s0, s1, sA, sl, sc, s3, hs⟩ := hform y
          have hsw := ElV.swapLo (x := x) (y := y) (A := p ++ A) (B := []) (C := B' ++ R2 ++ q) (I := k) (J := J) (hEk.cast (by simp)) (by simp; omega) (by simp; omega) hf hs
          obtain ⟨d1, d0, d2, q2, hE2⟩ := hsw
          have hk2 : Seq.Kpt (fun i => i = g) W ((((((((wr.setCell ⟨g, k * 4, none⟩ (Value.int .u64 s0)).setCell ⟨g, k * 4 + 1, none⟩ (Value.int .u32 s1)).setCell ⟨g, k * 4 + 2, none⟩ (Value.slice sA sl sc)).setCell ⟨g, k * 4 + 3, none⟩ (Value.int .u64 s3)).setCell ⟨g, J * 4, none⟩ (Value.int .u64 f0)).setCell ⟨g, J * 4 + 1, none⟩ (Value.int .u32 f1)).setCell ⟨g, J * 4 + 2, none⟩ (Value.slice fA fl fc)).setCell ⟨g, J * 4 + 3, none⟩ (Value.int .u64 f3)) := hkk.trans (kpt_put8 _ _ _ _ _ _ _ _ _ _ _ _) (fun _ _ h => h.elim id id)
          have e1 : wr.cell? ⟨g, k * 4, none⟩ = some (Value.int .u64 f0) ∧ wr.cell? ⟨g, k * 4 + 1, none⟩ = some (Value.int .u32 f1) ∧ wr.cell? ⟨g, k * 4 + 2, none⟩ = some (Value.slice fA fl fc) ∧ wr.cell? ⟨g, k * 4 + 3, none⟩ = some (Value.int .u64 f3) := d1
          have e0 : wr.cell? ⟨g, J * 4, none⟩ = some (Value.int .u64 s0) ∧ wr.cell? ⟨g, J * 4 + 1, none⟩ = some (Value.int .u32 s1) ∧ wr.cell? ⟨g, J * 4 + 2, none⟩ = some (Value.slice sA sl sc) ∧ wr.cell? ⟨g, J * 4 + 3, none⟩ = some (Value.int .u64 s3) := d0
          have e4 : wr.frozen? ⟨g, k * 4, none⟩ = false ∧ wr.frozen? ⟨g, k * 4 + 1, none⟩ = false ∧ wr.frozen? ⟨g, k * 4 + 2, none⟩ = false ∧ wr.frozen? ⟨g, k * 4 + 3, none⟩ = false := ⟨hEk.frozen _, hEk.frozen _, hEk.frozen _, hEk.frozen _⟩
          have e5 : wr.frozen? ⟨g, J * 4, none⟩ = false ∧ wr.frozen? ⟨g, J * 4 + 1, none⟩ = false ∧ wr.frozen? ⟨g, J * 4 + 2, none⟩ = false ∧ wr.frozen? ⟨g, J * 4 + 3, none⟩ = false := ⟨hEk.frozen _, hEk.frozen _, hEk.frozen _, hEk.frozen _⟩
          obtain ⟨e0_0, e0_1, e0_2, e0_3⟩ := e0
          obtain ⟨e1_0, e1_1, e1_2, e1_3⟩ := e1
          obtain ⟨e4_0, e4_1, e4_2, e4_3⟩ := e4
          obtain ⟨e5_0, e5_1, e5_2, e5_3⟩ := e5
          have r1 : ¬ J * 4 = k * 4 + 1 := by omega
          have t1 : ¬ k * 4 = J * 4 + 1 := by omega
          have r2 : ¬ J * 4 = k * 4 + 2 := by omega
          have t2 : ¬ k * 4 = J * 4 + 2 := by omega
          have r3 : ¬ J * 4 = k * 4 + 3 := by omega
          have t3 : ¬ k * 4 = J * 4 + 3 := by omega
          have n1 : (k : Int) < (n : Int) := by omega
          have n2 : (J : Int) < (n : Int) := by omega
          have n3 : k < n := by omega
          have n4 : J < n := by omega
          have n5 : J ≠ k := by omega
          have n6 : k ≠ J := by omega
          have HE2 := Lib.hid (And.intro hE2 hk2)
          clear hE2 hk2 d1 d0 d2 q2 hf hs
          go_wp2_with fail
          refine (wpIn_wide (n := 0)).1 ?_
          refine wpIn_region_X (l := 0) 15 (S := fun V : World => (V.cell? ⟨g, k * 4, none⟩ = some (Value.int .u64 f0) ∧ V.cell? ⟨g, k * 4 + 1, none⟩ = some (Value.int .u32 f1) ∧ V.cell? ⟨g, k * 4 + 2, none⟩ = some (Value.slice fA fl fc) ∧ V.cell? ⟨g, k * 4 + 3, none⟩ = some (Value.int .u64 f3)) ∧ (V.cell? ⟨g, J * 4, none⟩ = some (Value.int .u64 s0) ∧ V.cell? ⟨g, J * 4 + 1, none⟩ = some (Value.int .u32 s1) ∧ V.cell? ⟨g, J * 4 + 2, none⟩ = some (Value.slice sA sl sc) ∧ V.cell? ⟨g, J * 4 + 3, none⟩ = some (Value.int .u64 s3))) (by kernel_rfl) ⟨⟨e1_0, e1_1, e1_2, e1_3⟩, ⟨e0_0, e0_1, e0_2, e0_3⟩⟩ (fun hS0 => ?_)
          refine wpAnyX_pure (i := 0) (oi := ⟨some 61, _, _, _, _, _⟩) (v := ?_) (by kernel_rfl) (by kernel_rfl) rfl (by kernel_rfl) (by kernel_rfl) (by kernel_rfl) (fun _ _ _ h => h) (Or.inl ⟨by rfl, ?_⟩) (by assumption) ?_
          rotate_left
          · intro w _; go_simp; (try (with_reducible rfl))
          (try simp only [Act.put, List.setIfInBounds_toArray, List.set_cons_zero, List.set_cons_succ])
          refine wpAnyX_pure (i := 1) (oi := ⟨some 62, _, _, _, _, _⟩) (v := ?_) (by kernel_rfl) (by kernel_rfl) rfl (by kernel_rfl) (by kernel_rfl) (by kernel_rfl) (fun _ _ _ h => h) (Or.inl ⟨by rfl, ?_⟩) (by assumption) ?_
          rotate_left
          · intro w _; go_simp; (try (with_reducible rfl))
          (try simp only [Act.put, List.setIfInBounds_toArray, List.set_cons_zero, List.set_cons_succ])
          refine wpAnyX_pure (i := 2) (oi := ⟨some 63, _, _, _, _, _⟩) (v := ?_) (by kernel_rfl) (by kernel_rfl) rfl (by kernel_rfl) (by kernel_rfl) (by kernel_rfl) (fun _ _ _ h => h) (Or.inl ⟨by rfl, ?_⟩) (by assumption) ?_
          rotate_left
          · intro w _; go_simp; (try (with_reducible rfl))
          (try simp only [Act.put, List.setIfInBounds_toArray, List.set_cons_zero, List.set_cons_succ])
          refine wpAnyX_pure (i := 3) (oi := ⟨some 64, _, _, _, _, _⟩) (v := ?_) (by kernel_rfl) (by kernel_rfl) rfl (by kernel_rfl) (by kernel_rfl) (by kernel_rfl) (fun _ _ _ h => h) (Or.inl ⟨by rfl, ?_⟩) (by assumption) ?_
          rotate_left
          · intro w _; go_simp; (try (with_reducible rfl))
          (try simp only [Act.put, List.setIfInBounds_toArray, List.set_cons_zero, List.set_cons_succ])
          refine wpAnyX_pure (i := 4) (oi := ⟨some 65, _, _, _, _, _⟩) (v := ?_) (by kernel_rfl) (by kernel_rfl) rfl (by kernel_rfl) (by kernel_rfl) (by kernel_rfl) (fun _ _ _ h => h) (Or.inl ⟨by rfl, ?_⟩) (by assumption) ?_
          rotate_left
          · intro w _; go_simp; (try (with_reducible rfl))
          (try simp only [Act.put, List.setIfInBounds_toArray, List.set_cons_zero, List.set_cons_succ])
          refine wpAnyX_pure (i := 5) (oi := ⟨some 66, _, _, _, _, _⟩) (v := ?_) (by kernel_rfl) (by kernel_rfl) rfl (by kernel_rfl) (by kernel_rfl) (by kernel_rfl) (fun _ _ _ h => h) (Or.inl ⟨by rfl, ?_⟩) (by assumption) ?_
          rotate_left
          · intro w _; go_simp; (try (with_reducible rfl))
          (try simp only [Act.put, List.setIfInBounds_toArray, List.set_cons_zero, List.set_cons_succ])
          refine wpAnyX_pure (i := 6) (oi := ⟨some 67, _, _, _, _, _⟩) (v := ?_) (by kernel_rfl) (by kernel_rfl) rfl (by kernel_rfl) (by kernel_rfl) (by kernel_rfl) (fun _ _ _ h => h) (Or.inl ⟨by rfl, ?_⟩) (by assumption) ?_
          rotate_left
          · intro w _; go_simp; (try (with_reducible rfl))
          (try simp only [Act.put, List.setIfInBounds_toArray, List.set_cons_zero, List.set_cons_succ])
          refine wpAnyX_pure (i := 7) (oi := ⟨some 68, _, _, _, _, _⟩) (v := ?_) (by kernel_rfl) (by kernel_rfl) rfl (by kernel_rfl) (by kernel_rfl) (by kernel_rfl) (fun _ _ _ h => h) (Or.inl ⟨by rfl, ?_⟩) (by assumption) ?_
          rotate_left
          · intro w _; go_simp; (try (with_reducible rfl))
          (try simp only [Act.put, List.setIfInBounds_toArray, List.set_cons_zero, List.set_cons_succ])
          refine wpAnyX_pure (i := 8) (oi := ⟨some 69, _, _, _, _, _⟩) (v := ?_) (by kernel_rfl) (by kernel_rfl) rfl (by kernel_rfl) (by kernel_rfl) (by kernel_rfl) (fun _ _ _ h => h) (Or.inl ⟨by rfl, ?_⟩) (by assumption) ?_
          rotate_left
          · intro w _; go_simp; (try (with_reducible rfl))
          (try simp only [Act.put, List.setIfInBounds_toArray, List.set_cons_zero, List.set_cons_succ])
          refine wpAnyX_take (i := 9) (oi := ⟨some 70, _, _, _, _, _⟩) (v := ?_) (by kernel_rfl) (by kernel_rfl) (by kernel_rfl) rfl (by kernel_rfl) (by kernel_rfl) (by kernel_rfl) (by kernel_rfl) (fun _ _ _ h => h) (Or.inl ⟨by rfl, ?_⟩) (by assumption) ?_
          rotate_left
          · intro w hSw; (try dsimp only at hSw); (try go_split_ands); go_simp; (try (with_reducible rfl))
          (try simp only [Act.put, List.setIfInBounds_toArray, List.set_cons_zero, List.set_cons_succ])
          refine wpAnyX_pure (i := 10) (oi := ⟨some 71, _, _, _, _, _⟩) (v := ?_) (by kernel_rfl) (by kernel_rfl) rfl (by kernel_rfl) (by kernel_rfl) (by kernel_rfl) (fun _ _ _ h => h) (Or.inl ⟨by rfl, ?_⟩) (by assumption) ?_
          rotate_left
          · intro w _; go_simp; (try (with_reducible rfl))
          (try simp only [Act.put, List.setIfInBounds_toArray, List.set_cons_zero, List.set_cons_succ])
          refine wpAnyX_pure (i := 11) (oi := ⟨some 72, _, _, _, _, _⟩) (v := ?_) (by kernel_rfl) (by kernel_rfl) rfl (by kernel_rfl) (by kernel_rfl) (by kernel_rfl) (fun _ _ _ h => h) (Or.inl ⟨by rfl, ?_⟩) (by assumption) ?_
          rotate_left
          · intro w _; go_simp; (try (with_reducible rfl))
          (try simp only [Act.put, List.setIfInBounds_toArray, List.set_cons_zero, List.set_cons_succ])
          refine wpAnyX_pure (i := 12) (oi := ⟨some 73, _, _, _, _, _⟩) (v := ?_) (by kernel_rfl) (by kernel_rfl) rfl (by kernel_rfl) (by kernel_rfl) (by kernel_rfl) (fun _ _ _ h => h) (Or.inl ⟨by rfl, ?_⟩) (by assumption) ?_
          rotate_left
          · intro w _; go_simp; (try (with_reducible rfl))
          (try simp only [Act.put, List.setIfInBounds_toArray, List.set_cons_zero, List.set_cons_succ])
          refine wpAnyX_take (i := 13) (oi := ⟨some 74, _, _, _, _, _⟩) (v := ?_) (by kernel_rfl) (by kernel_rfl) (by kernel_rfl) rfl (by kernel_rfl) (by kernel_rfl) (by kernel_rfl) (by kernel_rfl) (fun _ _ _ h => h) (Or.inl ⟨by rfl, ?_⟩) (by assumption) ?_
          rotate_left
          · intro w hSw; (try dsimp only at hSw); (try go_split_ands); go_simp; (try (with_reducible rfl))
          (try simp only [Act.put, List.setIfInBounds_toArray, List.set_cons_zero, List.set_cons_succ])
          refine wpAnyX_pure (i := 14) (oi := ⟨some 75, _, _, _, _, _⟩) (v := ?_) (by kernel_rfl) (by kernel_rfl) rfl (by kernel_rfl) (by kernel_rfl) (by kernel_rfl) (fun _ _ _ h => h) (Or.inl ⟨by rfl, ?_⟩) (by assumption) ?_
          rotate_left
          · intro w _; go_simp; (try (with_reducible rfl))
          (try simp only [Act.put, List.setIfInBounds_toArray, List.set_cons_zero, List.set_cons_succ])
          clear hS0
          refine wpAnyX_one (i := 15) (o := ⟨none, _, _, _, _, _⟩) (by kernel_rfl) (by kernel_rfl) rfl (fun K hK => ?_)
          go_simp
          refine hK.out _ _ (.inl (.inl rfl)) ?_
          clear hK K
          (try simp only [Act.put, List.setIfInBounds_toArray, List.set_cons_zero, List.set_cons_succ])
          refine wpAnyX_one (i := 16) (o := ⟨some 76, _, _, _, _, _⟩) (by kernel_rfl) (by kernel_rfl) rfl (fun K hK => ?_)
          go_simp
          refine hK.out _ _ (.inl (.inr rfl)) ?_
          clear hK K
          (try simp only [Act.put, List.setIfInBounds_toArray, List.set_cons_zero, List.set_cons_succ])
          refine wpAnyX_one (i := 17) (o := ⟨none, _, _, _, _, _⟩) (by kernel_rfl) (by kernel_rfl) rfl (fun K hK => ?_)
          go_simp
          refine hK.out _ _ (.inl (.inr rfl)) ?_
          clear hK K
          (try simp only [Act.put, List.setIfInBounds_toArray, List.set_cons_zero, List.set_cons_succ])
          refine wpAnyX_done (by kernel_rfl) ?_ _
          go_wp2
          go_roundw
          case rel => exact ⟨J, A ++ [y], B', by go_num, by rw [hAB]; simp, by simp; omega, ElV.cast (ElV.drew HE2.out.1) (by simp), HE2.out.2.trans (Seq.Kpt.drew _ _) (fun _ _ h => h.elim id id)⟩
          case measure => simp [intOf]; omega
        · have hkz : ¬ (k : Int) < (i1 : Int) := by omega
          obtain rfl : B = [] := List.eq_nil_of_length_eq_zero (by omega)
          rw [List.append_nil] at hAB
          subst hAB
          go_wp2
          refine bodyPost_ret (results_none rfl _ _ _) rfl ?_
          refine ⟨rfl, R1 ++ x :: R2, ?_, ?_, hkk, hEk.cast (by simp)⟩
          · rw [← HR12.out]
            exact List.perm_middle
          · have hRs' := hRs
            rw [← HR12.out] at hRs'
            refine pw_append (List.pairwise_append.1 hRs').1 (List.pairwise_cons.2 ⟨hF2, (List.pairwise_append.1 hRs').2.1⟩) ?_
            intro y hy t ht
            rcases List.mem_cons.1 ht with ht | ht
            · rw [ht]; exact hF1 y hy
            · exact (List.pairwise_append.1 hRs').2.2 y hy t ht
end Go.Proofs.Ytghblnldokpceaa.QV
/- slices.SortStableFunc over versions, walked: symMerge. -/
namespace Go.Proofs.Ytghblnldokpceaa.QV
open Go.RowKit Go.Proofs.YtghblnldokpceaaW.PrintWords Go.Proofs.Ytghblnldokpceaa.SeqW Go.Proofs.Ytghblnldokpceaa.SeqX Go.Shelf Go.Proofs.Ytghblnldokpceaa.Op Go.Proofs.Ytghblnldokpceaa.Stab
set_option linter.unusedVariables false
set_option linter.unusedSimpArgs false

set_option maxRecDepth 100000 in
set_option maxHeartbeats 4000000 in
theorem symV_last (g n c : Nat) (cf : Nat → Nat → Int) (gc : Nat) (lb : Array Value) (hcf : CmpOk cf) (enc : Nat → List Value) (rest : List Value) (w0 : World) (hn2 : n ≤ 5864062014805)
    (hcmp : CmpAtV cf enc gc lb g w0) (eg : ∀ args w, (callFunc gc args).run Try.prog w = .ok (.enter gc args) w) (hform : ∀ x, ∃ e m A l c d, enc x = [Value.int .u64 e, Value.int .u32 m, Value.slice A l c, Value.int .u64 d])
    (a m b : Nat) (p L q : List Nat) (x : Nat) (W : World) (hx : ElV enc rest g (p ++ L ++ [x] ++ q) W) (hp : p.length = a) (hL : a + L.length = m) (hb : m + 1 = b) (hq : b + q.length = n) (hL2 : 2 ≤ L.length)
    (hLs : L.Pairwise (Lt cf)) (hLR : ∀ y ∈ L, y < x) (hk : Seq.Kpt (fun i => i = g) w0 W) :
    Calls Try.prog 82 #[.slice (some ⟨g, 0, none⟩) n c, .int .i64 a, .int .i64 m, .int .i64 b, .func (.func gc) #[] lb] W fun e W' => e = .returned (.tuple #[]) ∧
        ∃ S, S.Perm (L ++ [x]) ∧ S.Pairwise (Lt cf) ∧ Seq.Kpt (fun i => i = g) W W' ∧ ElV enc rest g (p ++ S ++ q) W' := by
  have mixed : Try.prog.follows .mixedOrders = true := by kernel_rfl
  obtain ⟨ll, hll⟩ : ∃ ll : Nat, L.length = ll := ⟨_, rfl⟩
  have e1 : (m : Int) - (a : Int) = (ll : Int) := by omega
  have e2 : IntKind.i64.wrap (ll : Int) = (ll : Int) := wrapN (by omega)
  have e3 : ((ll : Int) == 1) = false := by simp; omega
  have e3' : ¬ (ll : Int) = 1 := by omega
  have e3n : ¬ ll = 1 := by omega
  have e4 : (b : Int) - (m : Int) = 1 := by omega
  have e5 : IntKind.i64.wrap 1 = 1 := by rfl
  have an : m < n := by omega
  have anz : (m : Int) < (n : Int) := by omega
  have hE := hx.cast (ys := p ++ L ++ x :: q) (by simp)
  go_enter Try.func82, Try.ntmps82
  go_wp2_with fail
  go_loopw [14, 15] (fun iv jv wr => ∃ (i j : Nat), iv = .int .i64 (i : Int) ∧ jv = .int .i64 (j : Int) ∧ a ≤ i ∧ i ≤ j ∧ j ≤ m ∧ (∀ y ∈ L.take (i - a), Lt cf y x) ∧ (∀ y ∈ L.drop (j - a), Lt cf x y) ∧ ElV enc rest g (p ++ L ++ x :: q) wr ∧ Seq.Kpt (fun i => i = g) W wr) (fun iv jv _ => (intOf jv).toNat - (intOf iv).toNat)
  case atStart => exact ⟨a, m, rfl, rfl, Nat.le_refl _, by omega, Nat.le_refl _, by simp, by rw [List.drop_of_length_le (by omega)]; simp, hE, Seq.Kpt.refl _ _⟩
  case round =>
    obtain ⟨i, j, rfl, rfl, hmi, hij, hjb, hF1, hF2, hEr, hkr⟩ := hrel
    clear e1 e2 e3 e3' e3n e4 e5
    by_cases hlt : i < j
    · have hlz : (i : Int) < (j : Int) := by omega
      obtain ⟨s, hs⟩ : ∃ s : Nat, i + j = s := ⟨_, rfl⟩
      obtain ⟨h, hh⟩ : ∃ h : Nat, s / 2 = h := ⟨_, rfl⟩
      have w1 : (i : Int) + (j : Int) = (s : Int) := by omega
      have w2 : IntKind.i64.wrap (s : Int) = (s : Int) := wrapN (by omega)
      have w3 : (s : Int) / 2 = (h : Int) := by omega
      have w4 : (h : Int) < (n : Int) := by omega
      have w4' : h < n := by omega
      obtain ⟨e, he0, he1, he2⟩ := at_mid (s := L) (k := h - a) (by omega)
      obtain ⟨T, hT⟩ : ∃ T, L.take (h - a) = T := ⟨_, rfl⟩
      obtain ⟨D, hD⟩ : ∃ D, L.drop (h - a + 1) = D := ⟨_, rfl⟩
      rw [hT, hD] at he0
      have hTl : T.length = h - a := by rw [← hT, List.length_take]; omega
      have hDl : T.length + 1 + D.length = ll := by rw [← hll, he0]; simp; omega
      have hEe := hEr.cast (ys := p ++ (T ++ e :: D) ++ x :: q) (by rw [← he0])
      have HE0 := Lib.hid (And.intro he0 (And.intro he1 he2))
      have HTD := Lib.hid (And.intro hT hD)
      clear he0 he1 he2 hT hD
      obtain ⟨f0, f1, fA, fl, fc, f3, hf⟩ := hform x
      obtain ⟨s0, s1, sA, sl, sc, s3, hs⟩ := hform e
      have c1 := (hEe.cast (ys := (p ++ T ++ e :: D) ++ x :: q) (by simp)).at (i := m) (by first | omega | (simp; omega)) hf
      have c0 := (hEe.cast (ys := (p ++ T) ++ e :: (D ++ x :: q)) (by simp)).at (i := h) (by first | omega | (simp; omega)) hs
      obtain ⟨z, hz⟩ : ∃ z, cf x e = z := ⟨_, rfl⟩
      go_wp2_with fail
      refine (wpIn_wide (n := 0)).1 ?_
      refine wpIn_region_X (l := 0) 12 (S := fun V : World => (V.cell? ⟨g, m * 4, none⟩ = some (Value.int .u64 f0) ∧ V.cell? ⟨g, m * 4 + 1, none⟩ = some (Value.int .u32 f1) ∧ V.cell? ⟨g, m * 4 + 2, none⟩ = some (Value.slice fA fl fc) ∧ V.cell? ⟨g, m * 4 + 3, none⟩ = some (Value.int .u64 f3)) ∧ (V.cell? ⟨g, h * 4, none⟩ = some (Value.int .u64 s0) ∧ V.cell? ⟨g, h * 4 + 1, none⟩ = some (Value.int .u32 s1) ∧ V.cell? ⟨g, h * 4 + 2, none⟩ = some (Value.slice sA sl sc) ∧ V.cell? ⟨g, h * 4 + 3, none⟩ = some (Value.int .u64 s3))) (by kernel_rfl) ⟨c1, c0⟩ (fun hS0 => ?_)
      refine wpAnyX_pure (i := 0) (oi := ⟨some 92, _, _, _, _, _⟩) (v := ?_) (by kernel_rfl) (by kernel_rfl) rfl (by kernel_rfl) (by kernel_rfl) (by kernel_rfl) (fun _ _ _ h => h) (Or.inl ⟨by rfl, ?_⟩) (by assumption) ?_
      rotate_left
      · intro w _; go_simp; (try (with_reducible rfl))
      (try simp only [Act.put, List.setIfInBounds_toArray, List.set_cons_zero, List.set_cons_succ])
      refine wpAnyX_pure (i := 1) (oi := ⟨some 93, _, _, _, _, _⟩) (v := ?_) (by kernel_rfl) (by kernel_rfl) rfl (by kernel_rfl) (by kernel_rfl) (by kernel_rfl) (fun _ _ _ h => h) (Or.inl ⟨by rfl, ?_⟩) (by assumption) ?_
      rotate_left
      · intro w _; go_simp; (try (with_reducible rfl))
      (try simp only [Act.put, List.setIfInBounds_toArray, List.set_cons_zero, List.set_cons_succ])
      refine wpAnyX_pure (i := 2) (oi := ⟨some 94, _, _, _, _, _⟩) (v := ?_) (by kernel_rfl) (by kernel_rfl) rfl (by kernel_rfl) (by kernel_rfl) (by kernel_rfl) (fun _ _ _ h => h) (Or.inl ⟨by rfl, ?_⟩) (by assumption) ?_
      rotate_left
      · intro w _; go_simp; (try (with_reducible rfl))
      (try simp only [Act.put, List.setIfInBounds_toArray, List.set_cons_zero, List.set_cons_succ])
      refine wpAnyX_pure (i := 3) (oi := ⟨some 95, _, _, _, _, _⟩) (v := ?_) (by kernel_rfl) (by kernel_rfl) rfl (by kernel_rfl) (by kernel_rfl) (by kernel_rfl) (fun _ _ _ h => h) (Or.inl ⟨by rfl, ?_⟩) (by assumption) ?_
      rotate_left
      · intro w _; go_simp; (try (with_reducible rfl))
      (try simp only [Act.put, List.setIfInBounds_toArray, List.set_cons_zero, List.set_cons_succ])
      refine wpAnyX_take (i := 4) (oi := ⟨some 96, _, _, _, _, _⟩) (v := ?_) (by kernel_rfl) (by kernel_rfl) (by kernel_rfl) rfl (by kernel_rfl) (by kernel_rfl) (by kernel_rfl) (by kernel_rfl) (fun _ _ _ h => h) (Or.inl ⟨by rfl, ?_⟩) (by assumption) ?_
      rotate_left
      · intro w hSw; (try dsimp only at hSw); (try go_split_ands); go_simp; (try (with_reducible rfl))
      (try simp only [Act.put, List.setIfInBounds_toArray, List.set_cons_zero, List.set_cons_succ])
      refine wpAnyX_pure (i := 5) (oi := ⟨some 97, _, _, _, _, _⟩) (v := ?_) (by kernel_rfl) (by kernel_rfl) rfl (by kernel_rfl) (by kernel_rfl) (by kernel_rfl) (fun _ _ _ h => h) (Or.inl ⟨by rfl, ?_⟩) (by assumption) ?_
      rotate_left
      · intro w _; go_simp; (try (with_reducible rfl))
      (try simp only [Act.put, List.setIfInBounds_toArray, List.set_cons_zero, List.set_cons_succ])
      refine wpAnyX_pure (i := 6) (oi := ⟨some 98, _, _, _, _, _⟩) (v := ?_) (by kernel_rfl) (by kernel_rfl) rfl (by kernel_rfl) (by kernel_rfl) (by kernel_rfl) (fun _ _ _ h => h) (Or.inl ⟨by rfl, ?_⟩) (by assumption) ?_
      rotate_left
      · intro w _; go_simp; (try (with_reducible rfl))
      (try simp only [Act.put, List.setIfInBounds_toArray, List.set_cons_zero, List.set_cons_succ])
      refine wpAnyX_pure (i := 7) (oi := ⟨some 99, _, _, _, _, _⟩) (v := ?_) (by kernel_rfl) (by kernel_rfl) rfl (by kernel_rfl) (by kernel_rfl) (by kernel_rfl) (fun _ _ _ h => h) (Or.inl ⟨by rfl, ?_⟩) (by assumption) ?_
      rotate_left
      · intro w _; go_simp; (try (with_reducible rfl))
      (try simp only [Act.put, List.setIfInBounds_toArray, List.set_cons_zero, List.set_cons_succ])
      refine wpAnyX_take (i := 8) (oi := ⟨some 100, _, _, _, _, _⟩) (v := ?_) (by kernel_rfl) (by kernel_rfl) (by kernel_rfl) rfl (by kernel_rfl) (by kernel_rfl) (by kernel_rfl) (by kernel_rfl) (fun _ _ _ h => h) (Or.inl ⟨by rfl, ?_⟩) (by assumption) ?_
      rotate_left
      · intro w hSw; (try dsimp only at hSw); (try go_split_ands); go_simp; (try (with_reducible rfl))
      (try simp only [Act.put, List.setIfInBounds_toArray, List.set_cons_zero, List.set_cons_succ])
      refine wpAnyX_one (i := 9) (o := ⟨some 101, _, _, _, _, _⟩) (by kernel_rfl) (by kernel_rfl) rfl (fun K hK => ?_)
      go_simp
      have hcc := hcmp x e wr.drew ((hk.trans hkr (fun _ _ h => h.elim id id)).trans (Seq.Kpt.drew _ _) (fun _ _ h => h.elim id id))
      rw [hf, hs, hz] at hcc
      refine hcc.mono ?_
      rintro e w5 ⟨rfl, hb5⟩
      clear hcc
      have hb5' : Below wr.heap.size wr w5 := (below_drew (Below.refl _ wr)).trans hb5
      have hE5 := ElV.kept hEe hb5'
      have hk5 := hkr.trans (Seq.Kpt.of_new (fun i => i = g) hb5') (fun _ _ h => h.elim id id)
      have c15 := (hE5.cast (ys := (p ++ T ++ e :: D) ++ x :: q) (by simp)).at (i := m) (by first | omega | (simp; omega)) hf
      have c05 := (hE5.cast (ys := (p ++ T) ++ e :: (D ++ x :: q)) (by simp)).at (i := h) (by first | omega | (simp; omega)) hs
      have c55 := And.intro c15 c05
      (try dsimp only)
      refine hK.out _ _ (.inr c55) ?_
      clear hK K
      (try simp only [Act.put, List.setIfInBounds_toArray, List.set_cons_zero, List.set_cons_succ])
      by_cases hz0 : z < 0
      ·
        refine wpAnyX_pure (i := 10) (oi := ⟨some 102, _, _, _, _, _⟩) (v := ?_) (by kernel_rfl) (by kernel_rfl) rfl (by kernel_rfl) (by kernel_rfl) (by kernel_rfl) (fun _ _ _ h => h) (Or.inl ⟨by rfl, ?_⟩) (by assumption) ?_
        rotate_left
        · intro w _; go_simp; (try (with_reducible rfl))
        (try simp only [Act.put, List.setIfInBounds_toArray, List.set_cons_zero, List.set_cons_succ])
        refine wpAnyX_pure (i := 11) (oi := ⟨some 103, _, _, _, _, _⟩) (v := ?_) (by kernel_rfl) (by kernel_rfl) rfl (by kernel_rfl) (by kernel_rfl) (by kernel_rfl) (fun _ _ _ h => h) (Or.inl ⟨by rfl, ?_⟩) (by assumption) ?_
        rotate_left
        · intro w _; go_simp; (try (with_reducible rfl))
        (try simp only [Act.put, List.setIfInBounds_toArray, List.set_cons_zero, List.set_cons_succ])
        refine wpAnyX_done (by kernel_rfl) ?_ _
        (try clear c15 c05 c55 c1 c0 hS0 hf hs)
        go_wp2
        go_roundw
        case rel =>
          refine ⟨i, h, rfl, by go_num, hmi, by omega, by omega, hF1, ?_, ElV.cast hE5 (by rw [HE0.out.1]), hk5⟩
          rw [HE0.out.2.1]
          refine all_behind hcf ?_ (Lt.of_neg (by rw [hz]; exact hz0))
          rw [← HE0.out.2.1]
          exact pw_drop hLs _
        case measure => simp [intOf]; omega
      ·
        refine wpAnyX_pure (i := 10) (oi := ⟨some 102, _, _, _, _, _⟩) (v := ?_) (by kernel_rfl) (by kernel_rfl) rfl (by kernel_rfl) (by kernel_rfl) (by kernel_rfl) (fun _ _ _ h => h) (Or.inl ⟨by rfl, ?_⟩) (by assumption) ?_
        rotate_left
        · intro w _; go_simp; (try (with_reducible rfl))
        (try simp only [Act.put, List.setIfInBounds_toArray, List.set_cons_zero, List.set_cons_succ])
        refine wpAnyX_pure (i := 11) (oi := ⟨some 103, _, _, _, _, _⟩) (v := ?_) (by kernel_rfl) (by kernel_rfl) rfl (by kernel_rfl) (by kernel_rfl) (by kernel_rfl) (fun _ _ _ h => h) (Or.inl ⟨by rfl, ?_⟩) (by assumption) ?_
        rotate_left
        · intro w _; go_simp; (try (with_reducible rfl))
        (try simp only [Act.put, List.setIfInBounds_toArray, List.set_cons_zero, List.set_cons_succ])
        refine wpAnyX_done (by kernel_rfl) ?_ _
        (try clear c15 c05 c55 c1 c0 hS0 hf hs)
        go_wp2
        go_roundw
        case rel =>
          refine ⟨h + 1, j, by go_num, rfl, by omega, by omega, hjb, ?_, hF2, ElV.cast hE5 (by rw [HE0.out.1]), hk5⟩
          rw [show h + 1 - a = h - a + 1 by omega, HE0.out.2.2]
          refine all_ahead hcf ?_ (Lt.of_not hcf (hLR e (by rw [HE0.out.1]; simp)) (by rw [hz]; exact hz0))
          rw [← HE0.out.2.2]
          exact pw_take hLs _
        case measure => simp [intOf]; omega
    · obtain rfl : i = j := by omega
      have hlz : ¬ (i : Int) < (i : Int) := by omega
      clear hlt
      obtain ⟨L1, hL1⟩ : ∃ L1, L.take (i - a) = L1 := ⟨_, rfl⟩
      obtain ⟨L2, hL2'⟩ : ∃ L2, L.drop (i - a) = L2 := ⟨_, rfl⟩
      have hL12 : L1 ++ L2 = L := by rw [← hL1, ← hL2', List.take_append_drop]
      have hL1l : L1.length = i - a := by rw [← hL1, List.length_take]; omega
      have hL2l : L1.length + L2.length = ll := by rw [← hll, ← hL12]; simp
      rw [hL1] at hF1
      rw [hL2'] at hF2
      have hE1 := hEr.cast (ys := p ++ (L1 ++ L2) ++ x :: q) (by rw [hL12])
      have HL12 := Lib.hid hL12
      clear hL1 hL2' hL12
      go_wp2_with fail
      go_loopw [17] (fun kv wq => ∃ (k : Nat) (A B : List Nat), kv = .int .i64 (k : Int) ∧ L2 = A ++ B ∧ i + A.length = k ∧ ElV enc rest g (p ++ L1 ++ (A ++ x :: B) ++ q) wq ∧ Seq.Kpt (fun i => i = g) W wq) (fun kv _ => (intOf kv).toNat)
      case atStart => exact ⟨m, L2, [], rfl, by simp, by omega, hE1.cast (by simp), hkr⟩
      case round =>
        obtain ⟨k, A, B, rfl, hAB, hAk, hEk, hkk⟩ := hrel
        have hABl : A.length + B.length + L1.length = ll := by rw [← hL2l, hAB]; simp; omega
        by_cases hkl : i < k
        · have hkz : (i : Int) < (k : Int) := by omega
          rcases snoc_cases A with rfl | ⟨A', y, rfl⟩
          · simp at hAk; omega
          obtain ⟨K, hK⟩ : ∃ K : Nat, k - 1 = K := ⟨_, rfl⟩
          have hA'l : i + A'.length = K := by simp at hAk; omega
          have hABl' : A'.length + 1 + B.length + L1.length = ll := by simp at hABl; omega
          clear hABl
          have w5 : (k : Int) - 1 = (K : Int) := by omega
          have w6 : IntKind.i64.wrap (K : Int) = (K : Int) := wrapN (by omega)
          obtain ⟨f0, f1, fA, fl, fc, f3, hf⟩ := hform y
          obtain ⟨s0, s1, sA, sl, sc, s3, hs⟩ := hform x
          have hsw := ElV.swapHi (x := y) (y := x) (A := p ++ L1 ++ A') (B := []) (C := B ++ q) (I := K) (J := k) (hEk.cast (by simp)) (by simp; omega) (by simp; omega) hf hs
          obtain ⟨d1, d0, d2, q2, hE2⟩ := hsw
          have hk2 : Seq.Kpt (fun i => i = g) W ((((((((wr.setCell ⟨g, k * 4, none⟩ (Value.int .u64 f0)).setCell ⟨g, k * 4 + 1, none⟩ (Value.int .u32 f1)).setCell ⟨g, k * 4 + 2, none⟩ (Value.slice fA fl fc)).setCell ⟨g, k * 4 + 3, none⟩ (Value.int .u64 f3)).setCell ⟨g, K * 4, none⟩ (Value.int .u64 s0)).setCell ⟨g, K * 4 + 1, none⟩ (Value.int .u32 s1)).setCell ⟨g, K * 4 + 2, none⟩ (Value.slice sA sl sc)).setCell ⟨g, K * 4 + 3, none⟩ (Value.int .u64 s3)) := hkk.trans (kpt_put8 _ _ _ _ _ _ _ _ _ _ _ _) (fun _ _ h => h.elim id id)
          have e1 : wr.cell? ⟨g, K * 4, none⟩ = some (Value.int .u64 f0) ∧ wr.cell? ⟨g, K * 4 + 1, none⟩ = some (Value.int .u32 f1) ∧ wr.cell? ⟨g, K * 4 + 2, none⟩ = some (Value.slice fA fl fc) ∧ wr.cell? ⟨g, K * 4 + 3, none⟩ = some (Value.int .u64 f3) := d1
          have e0 : wr.cell? ⟨g, k * 4, none⟩ = some (Value.int .u64 s0) ∧ wr.cell? ⟨g, k * 4 + 1, none⟩ = some (Value.int .u32 s1) ∧ wr.cell? ⟨g, k * 4 + 2, none⟩ = some (Value.slice sA sl sc) ∧ wr.cell? ⟨g, k * 4 + 3, none⟩ = some (Value.int .u64 s3) := d0
          have e4 : wr.frozen? ⟨g, K * 4, none⟩ = false ∧ wr.frozen? ⟨g, K * 4 + 1, none⟩ = false ∧ wr.frozen? ⟨g, K * 4 + 2, none⟩ = false ∧ wr.frozen? ⟨g, K * 4 + 3, none⟩ = false := ⟨hEk.frozen _, hEk.frozen _, hEk.frozen _, hEk.frozen _⟩
          have e5 : wr.frozen? ⟨g, k * 4, none⟩ = false ∧ wr.frozen? ⟨g, k * 4 + 1, none⟩ = false ∧ wr.frozen? ⟨g, k * 4 + 2, none⟩ = false ∧ wr.frozen? ⟨g, k * 4 + 3, none⟩ = false := ⟨hEk.frozen _, hEk.frozen _, hEk.frozen _, hEk.frozen _⟩
          obtain ⟨e0_0, e0_1, e0_2, e0_3⟩ := e0
          obtain ⟨e1_0, e1_1, e1_2, e1_3⟩ := e1
          obtain ⟨e4_0, e4_1, e4_2, e4_3⟩ := e4
          obtain ⟨e5_0, e5_1, e5_2, e5_3⟩ := e5
          have r1 : ¬ k * 4 = K * 4 + 1 := by omega
          have t1 : ¬ K * 4 = k * 4 + 1 := by omega
          have r2 : ¬ k * 4 = K * 4 + 2 := by omega
          have t2 : ¬ K * 4 = k * 4 + 2 := by omega
          have r3 : ¬ k * 4 = K * 4 + 3 := by omega
          have t3 : ¬ K * 4 = k * 4 + 3 := by omega
          have n1 : (K : Int) < (n : Int) := by omega
          have n2 : (k : Int) < (n : Int) := by omega
          have n3 : K < n := by omega
          have n4 : k < n := by omega
          have n5 : k ≠ K := by omega
          have n6 : K ≠ k := by omega
          have HE2 := Lib.hid (And.intro hE2 hk2)
          clear hE2 hk2 d1 d0 d2 q2 hf hs
          go_wp2_with fail
          refine (wpIn_wide (n := 0)).1 ?_
          refine wpIn_region_X (l := 0) 15 (S := fun V : World => (V.cell? ⟨g, K * 4, none⟩ = some (Value.int .u64 f0) ∧ V.cell? ⟨g, K * 4 + 1, none⟩ = some (Value.int .u32 f1) ∧ V.cell? ⟨g, K * 4 + 2, none⟩ = some (Value.slice fA fl fc) ∧ V.cell? ⟨g, K * 4 + 3, none⟩ = some (Value.int .u64 f3)) ∧ (V.cell? ⟨g, k * 4, none⟩ = some (Value.int .u64 s0) ∧ V.cell? ⟨g, k * 4 + 1, none⟩ = some (Value.int .u32 s1) ∧ V.cell? ⟨g, k * 4 + 2, none⟩ = some (Value.slice sA sl sc) ∧ V.cell? ⟨g, k * 4 + 3, none⟩ = some (Value.int .u64 s3))) (by kernel_rfl) ⟨⟨e1_0, e1_1, e1_2, e1_3⟩, ⟨e0_0, e0_1, e0_2, e0_3⟩⟩ (fun hS0 => ?_)
          refine wpAnyX_pure (i := 0) (oi := ⟨some 113, _, _, _, _, _⟩) (v := ?_) (by kernel_rfl) (by kernel_rfl) rfl (by kernel_rfl) (by kernel_rfl) (by kernel_rfl) (fun _ _ _ h => h) (Or.inl ⟨by rfl, ?_⟩) (by assumption) ?_
          rotate_left
          · intro w _; go_simp; (try (with_reducible rfl))
          (try simp only [Act.put, List.setIfInBounds_toArray, List.set_cons_zero, List.set_cons_succ])
          refine wpAnyX_pure (i := 1) (oi := ⟨some 114, _, _, _, _, _⟩) (v := ?_) (by kernel_rfl) (by kernel_rfl) rfl (by kernel_rfl) (by kernel_rfl) (by kernel_rfl) (fun _ _ _ h => h) (Or.inl ⟨by rfl, ?_⟩) (by assumption) ?_
          rotate_left
          · intro w _; go_simp; (try (with_reducible rfl))
          (try simp only [Act.put, List.setIfInBounds_toArray, List.set_cons_zero, List.set_cons_succ])
          refine wpAnyX_pure (i := 2) (oi := ⟨some 115, _, _, _, _, _⟩) (v := ?_) (by kernel_rfl) (by kernel_rfl) rfl (by kernel_rfl) (by kernel_rfl) (by kernel_rfl) (fun _ _ _ h => h) (Or.inl ⟨by rfl, ?_⟩) (by assumption) ?_
          rotate_left
          · intro w _; go_simp; (try (with_reducible rfl))
          (try simp only [Act.put, List.setIfInBounds_toArray, List.set_cons_zero, List.set_cons_succ])
          refine wpAnyX_pure (i := 3) (oi := ⟨some 116, _, _, _, _, _⟩) (v := ?_) (by kernel_rfl) (by kernel_rfl) rfl (by kernel_rfl) (by kernel_rfl) (by kernel_rfl) (fun _ _ _ h => h) (Or.inl ⟨by rfl, ?_⟩) (by assumption) ?_
          rotate_left
          · intro w _; go_simp; (try (with_reducible rfl))
          (try simp only [Act.put, List.setIfInBounds_toArray, List.set_cons_zero, List.set_cons_succ])
          refine wpAnyX_pure (i := 4) (oi := ⟨some 117, _, _, _, _, _⟩) (v := ?_) (by kernel_rfl) (by kernel_rfl) rfl (by kernel_rfl) (by kernel_rfl) (by kernel_rfl) (fun _ _ _ h => h) (Or.inl ⟨by rfl, ?_⟩) (by assumption) ?_
          rotate_left
          · intro w _; go_simp; (try (with_reducible rfl))
          (try simp only [Act.put, List.setIfInBounds_toArray, List.set_cons_zero, List.set_cons_succ])
          refine wpAnyX_pure (i := 5) (oi := ⟨some 118, _, _, _, _, _⟩) (v := ?_) (by kernel_rfl) (by kernel_rfl) rfl (by kernel_rfl) (by kernel_rfl) (by kernel_rfl) (fun _ _ _ h => h) (Or.inl ⟨by rfl, ?_⟩) (by assumption) ?_
          rotate_left
          · intro w _; go_simp; (try (with_reducible rfl))
          (try simp only [Act.put, List.setIfInBounds_toArray, List.set_cons_zero, List.set_cons_succ])
          refine wpAnyX_pure (i := 6) (oi := ⟨some 119, _, _, _, _, _⟩) (v := ?_) (by kernel_rfl) (by kernel_rfl) rfl (by kernel_rfl) (by kernel_rfl) (by kernel_rfl) (fun _ _ _ h => h) (Or.inl ⟨by rfl, ?_⟩) (by assumption) ?_
          rotate_left
          · intro w _; go_simp; (try (with_reducible rfl))
          (try simp only [Act.put, List.setIfInBounds_toArray, List.set_cons_zero, List.set_cons_succ])
          refine wpAnyX_pure (i := 7) (oi := ⟨some 120, _, _, _, _, _⟩) (v := ?_) (by kernel_rfl) (by kernel_rfl) rfl (by kernel_rfl) (by kernel_rfl) (by kernel_rfl) (fun _ _ _ h => h) (Or.inl ⟨by rfl, ?_⟩) (by assumption) ?_
          rotate_left
          · intro w _; go_simp; (try (with_reducible rfl))
          (try simp only [Act.put, List.setIfInBounds_toArray, List.set_cons_zero, List.set_cons_succ])
          refine wpAnyX_pure (i := 8) (oi := ⟨some 121, _, _, _, _, _⟩) (v := ?_) (by kernel_rfl) (by kernel_rfl) rfl (by kernel_rfl) (by kernel_rfl) (by kernel_rfl) (fun _ _ _ h => h) (Or.inl ⟨by rfl, ?_⟩) (by assumption) ?_
          rotate_left
          · intro w _; go_simp; (try (with_reducible rfl))
          (try simp only [Act.put, List.setIfInBounds_toArray, List.set_cons_zero, List.set_cons_succ])
          refine wpAnyX_take (i := 9) (oi := ⟨some 122, _, _, _, _, _⟩) (v := ?_) (by kernel_rfl) (by kernel_rfl) (by kernel_rfl) rfl (by kernel_rfl) (by kernel_rfl) (by kernel_rfl) (by kernel_rfl) (fun _ _ _ h => h) (Or.inl ⟨by rfl, ?_⟩) (by assumption) ?_
          rotate_left
          · intro w hSw; (try dsimp only at hSw); (try go_split_ands); go_simp; (try (with_reducible rfl))
          (try simp only [Act.put, List.setIfInBounds_toArray, List.set_cons_zero, List.set_cons_succ])
          refine wpAnyX_pure (i := 10) (oi := ⟨some 123, _, _, _, _, _⟩) (v := ?_) (by kernel_rfl) (by kernel_rfl) rfl (by kernel_rfl) (by kernel_rfl) (by kernel_rfl) (fun _ _ _ h => h) (Or.inl ⟨by rfl, ?_⟩) (by assumption) ?_
          rotate_left
          · intro w _; go_simp; (try (with_reducible rfl))
          (try simp only [Act.put, List.setIfInBounds_toArray, List.set_cons_zero, List.set_cons_succ])
          refine wpAnyX_pure (i := 11) (oi := ⟨some 124, _, _, _, _, _⟩) (v := ?_) (by kernel_rfl) (by kernel_rfl) rfl (by kernel_rfl) (by kernel_rfl) (by kernel_rfl) (fun _ _ _ h => h) (Or.inl ⟨by rfl, ?_⟩) (by assumption) ?_
          rotate_left
          · intro w _; go_simp; (try (with_reducible rfl))
          (try simp only [Act.put, List.setIfInBounds_toArray, List.set_cons_zero, List.set_cons_succ])
          refine wpAnyX_pure (i := 12) (oi := ⟨some 125, _, _, _, _, _⟩) (v := ?_) (by kernel_rfl) (by kernel_rfl) rfl (by kernel_rfl) (by kernel_rfl) (by kernel_rfl) (fun _ _ _ h => h) (Or.inl ⟨by rfl, ?_⟩) (by assumption) ?_
          rotate_left
          · intro w _; go_simp; (try (with_reducible rfl))
          (try simp only [Act.put, List.setIfInBounds_toArray, List.set_cons_zero, List.set_cons_succ])
          refine wpAnyX_take (i := 13) (oi := ⟨some 126, _, _, _, _, _⟩) (v := ?_) (by kernel_rfl) (by kernel_rfl) (by kernel_rfl) rfl (by kernel_rfl) (by kernel_rfl) (by kernel_rfl) (by kernel_rfl) (fun _ _ _ h => h) (Or.inl ⟨by rfl, ?_⟩) (by assumption) ?_
          rotate_left
          · intro w hSw; (try dsimp only at hSw); (try go_split_ands); go_simp; (try (with_reducible rfl))
          (try simp only [Act.put, List.setIfInBounds_toArray, List.set_cons_zero, List.set_cons_succ])
          refine wpAnyX_pure (i := 14) (oi := ⟨some 127, _, _, _, _, _⟩) (v := ?_) (by kernel_rfl) (by kernel_rfl) rfl (by kernel_rfl) (by kernel_rfl) (by kernel_rfl) (fun _ _ _ h => h) (Or.inl ⟨by rfl, ?_⟩) (by assumption) ?_
          rotate_left
          · intro w _; go_simp; (try (with_reducible rfl))
          (try simp only [Act.put, List.setIfInBounds_toArray, List.set_cons_zero, List.set_cons_succ])
          clear hS0
          refine wpAnyX_one (i := 15) (o := ⟨none, _, _, _, _, _⟩) (by kernel_rfl) (by kernel_rfl) rfl (fun K hK => ?_)
          go_simp
          refine hK.out _ _ (.inl (.inl rfl)) ?_
          clear hK K
          (try simp only [Act.put, List.setIfInBounds_toArray, List.set_cons_zero, List.set_cons_succ])
          refine wpAnyX_one (i := 16) (o := ⟨some 128, _, _, _, _, _⟩) (by kernel_rfl) (by kernel_rfl) rfl (fun K hK => ?_)
          go_simp
          refine hK.out _ _ (.inl (.inr rfl)) ?_
          clear hK K
          (try simp only [Act.put, List.setIfInBounds_toArray, List.set_cons_zero, List.set_cons_succ])
          refine wpAnyX_one (i := 17) (o := ⟨none, _, _, _, _, _⟩) (by kernel_rfl) (by kernel_rfl) rfl (fun K hK => ?_)
          go_simp
          refine hK.out _ _ (.inl (.inr rfl)) ?_
          clear hK K
          (try simp only [Act.put, List.setIfInBounds_toArray, List.set_cons_zero, List.set_cons_succ])
          refine wpAnyX_done (by kernel_rfl) ?_ _
          go_wp2
          go_roundw
          case rel => exact ⟨K, A', y :: B, by go_num, by rw [hAB]; simp, hA'l, ElV.cast (ElV.drew HE2.out.1) (by simp), HE2.out.2.trans (Seq.Kpt.drew _ _) (fun _ _ h => h.elim id id)⟩
          case measure => simp [intOf]; omega
        · have hkz : ¬ (i : Int) < (k : Int) := by omega
          obtain rfl : A = [] := List.eq_nil_of_length_eq_zero (by omega)
          rw [List.nil_append] at hAB
          subst hAB
          go_wp2
          refine bodyPost_ret (results_none rfl _ _ _) rfl ?_
          refine ⟨rfl, L1 ++ x :: L2, ?_, ?_, hkk, hEk.cast (by simp)⟩
          · rw [← HL12.out]
            exact List.perm_middle.trans (List.perm_append_singleton x _).symm
          · have hLs' := hLs
            rw [← HL12.out] at hLs'
            refine pw_append (List.pairwise_append.1 hLs').1 (List.pairwise_cons.2 ⟨hF2, (List.pairwise_append.1 hLs').2.1⟩) ?_
            intro y hy t ht
            rcases List.mem_cons.1 ht with ht | ht
            · rw [ht]; exact hF1 y hy
            · exact (List.pairwise_append.1 hLs').2.2 y hy t ht
end Go.Proofs.Ytghblnldokpceaa.QV
/- slices.SortStableFunc over versions, walked: symMerge. -/
namespace Go.Proofs.Ytghblnldokpceaa.QV
open Go.RowKit Go.Proofs.YtghblnldokpceaaW.PrintWords Go.Proofs.Ytghblnldokpceaa.SeqW Go.Proofs.Ytghblnldokpceaa.SeqX Go.Shelf Go.Proofs.Ytghblnldokpceaa.Op Go.Proofs.Ytghblnldokpceaa.Stab
set_option linter.unusedVariables false
set_option linter.unusedSimpArgs false

/-- What symMerge does, for parts of so many elements. -/
def SymAtV (g n c : Nat) (cf : Nat → Nat → Int) (gc : Nat) (lb : Array Value) (enc : Nat → List Value) (rest : List Value) (w0 : World) (N : Nat) : Prop :=
  ∀ (a m b : Nat) (p L R q : List Nat) (W : World), b - a ≤ N → ElV enc rest g (p ++ L ++ R ++ q) W → p.length = a → a + L.length = m → m + R.length = b → b + q.length = n → 0 < L.length → 0 < R.length →
      L.Pairwise (Lt cf) → R.Pairwise (Lt cf) → (∀ x ∈ L, ∀ y ∈ R, x < y) → Seq.Kpt (fun i => i = g) w0 W →
      Calls Try.prog 82 #[.slice (some ⟨g, 0, none⟩) n c, .int .i64 a, .int .i64 m, .int .i64 b, .func (.func gc) #[] lb] W fun e W' => e = .returned (.tuple #[]) ∧
        ∃ S, S.Perm (L ++ R) ∧ S.Pairwise (Lt cf) ∧ Seq.Kpt (fun i => i = g) W W' ∧ ElV enc rest g (p ++ S ++ q) W' 
set_option maxRecDepth 100000 in
set_option maxHeartbeats 16000000 in
theorem symV_gt (g n c : Nat) (cf : Nat → Nat → Int) (gc : Nat) (lb : Array Value) (hcf : CmpOk cf) (enc : Nat → List Value) (rest : List Value) (w0 : World) (hn2 : n ≤ 5864062014805)
    (hcmp : CmpAtV cf enc gc lb g w0) (eg : ∀ args w, (callFunc gc args).run Try.prog w = .ok (.enter gc args) w) (hform : ∀ x, ∃ e m A l c d, enc x = [Value.int .u64 e, Value.int .u32 m, Value.slice A l c, Value.int .u64 d])
    (N : Nat) (IH : SymAtV g n c cf gc lb enc rest w0 N) (a m b : Nat) (p L R q : List Nat) (W : World) (hN : b - a ≤ N + 1) (hx : ElV enc rest g (p ++ L ++ R ++ q) W) (hp : p.length = a) (hL : a + L.length = m) (hR : m + R.length = b) (hq : b + q.length = n) (hL2 : 2 ≤ L.length) (hR2 : 2 ≤ R.length)
    (hLs : L.Pairwise (Lt cf)) (hRs : R.Pairwise (Lt cf)) (hLR : ∀ x ∈ L, ∀ y ∈ R, x < y) (hk : Seq.Kpt (fun i => i = g) w0 W) (hside : (a + b) / 2 < m) :
    Calls Try.prog 82 #[.slice (some ⟨g, 0, none⟩) n c, .int .i64 a, .int .i64 m, .int .i64 b, .func (.func gc) #[] lb] W fun e W' => e = .returned (.tuple #[]) ∧
        ∃ S, S.Perm (L ++ R) ∧ S.Pairwise (Lt cf) ∧ Seq.Kpt (fun i => i = g) W W' ∧ ElV enc rest g (p ++ S ++ q) W' := by
  have mixed : Try.prog.follows .mixedOrders = true := by kernel_rfl
  obtain ⟨ll, hll⟩ : ∃ ll : Nat, L.length = ll := ⟨_, rfl⟩
  obtain ⟨lr, hlr⟩ : ∃ lr : Nat, R.length = lr := ⟨_, rfl⟩
  have e1 : (m : Int) - (a : Int) = (ll : Int) := by omega
  have e2 : IntKind.i64.wrap (ll : Int) = (ll : Int) := wrapN (by omega)
  have e3' : ¬ (ll : Int) = 1 := by omega
  have e3n : ¬ ll = 1 := by omega
  have e4 : (b : Int) - (m : Int) = (lr : Int) := by omega
  have e5 : IntKind.i64.wrap (lr : Int) = (lr : Int) := wrapN (by omega)
  have e6' : ¬ (lr : Int) = 1 := by omega
  have e3 : ((ll : Int) == 1) = false := by simp; omega
  have e6 : ((lr : Int) == 1) = false := by simp; omega
  have e6n : ¬ lr = 1 := by omega
  obtain ⟨s0, hs0⟩ : ∃ s0 : Nat, a + b = s0 := ⟨_, rfl⟩
  obtain ⟨M, hM⟩ : ∃ M : Nat, s0 / 2 = M := ⟨_, rfl⟩
  obtain ⟨nn, hnn⟩ : ∃ nn : Nat, M + m = nn := ⟨_, rfl⟩
  obtain ⟨pp, hpp⟩ : ∃ pp : Nat, nn - 1 = pp := ⟨_, rfl⟩
  have f1 : (a : Int) + (b : Int) = (s0 : Int) := by omega
  have f2 : IntKind.i64.wrap (s0 : Int) = (s0 : Int) := wrapN (by omega)
  have f3 : (s0 : Int) / 2 = (M : Int) := by omega
  have f4 : (M : Int) + (m : Int) = (nn : Int) := by omega
  have f5 : IntKind.i64.wrap (nn : Int) = (nn : Int) := wrapN (by omega)
  have f6 : (nn : Int) - 1 = (pp : Int) := by omega
  have f7 : IntKind.i64.wrap (pp : Int) = (pp : Int) := wrapN (by omega)
  obtain ⟨lo, hlo⟩ : ∃ lo : Nat, nn - b = lo := ⟨_, rfl⟩
  have f8 : (nn : Int) - (b : Int) = (lo : Int) := by omega
  have f9 : IntKind.i64.wrap (lo : Int) = (lo : Int) := wrapN (by omega)
  have hgz : (M : Int) < (m : Int) := by omega
  go_enter Try.func82, Try.ntmps82
  go_wp2_with fail
  clear e1 e2 e3 e3' e3n e4 e5 e6 e6' e6n f1 f2 f3 f4 f5 f6 f7 hgz f8 f9
  go_loopw [20, 21] (fun iv jv wr => ∃ (st r : Nat), iv = .int .i64 (st : Int) ∧ jv = .int .i64 (r : Int) ∧ lo ≤ st ∧ st ≤ r ∧ r ≤ M ∧ (∀ u ∈ L.take (st - a), ∀ v ∈ R.drop (nn - st - m), Lt cf u v) ∧ (∀ v ∈ R.take (nn - r - m), ∀ u ∈ L.drop (r - a), Lt cf v u) ∧ ElV enc rest g (p ++ L ++ R ++ q) wr ∧ Seq.Kpt (fun i => i = g) W wr) (fun iv jv _ => (intOf jv).toNat - (intOf iv).toNat)
  case atStart => exact ⟨lo, M, rfl, rfl, Nat.le_refl _, by omega, Nat.le_refl _, by rw [List.drop_of_length_le (by omega)]; simp, by rw [show nn - M - m = 0 by omega]; simp, hx, Seq.Kpt.refl _ _⟩
  case round =>
    obtain ⟨st, r, rfl, rfl, hst, hsr, hrh, hF1, hF2, hEr, hkr⟩ := hrel
    by_cases hlt : st < r
    · have hlz : (st : Int) < (r : Int) := by omega
      obtain ⟨s, hs⟩ : ∃ s : Nat, st + r = s := ⟨_, rfl⟩
      obtain ⟨h, hh⟩ : ∃ h : Nat, s / 2 = h := ⟨_, rfl⟩
      obtain ⟨d, hd⟩ : ∃ d : Nat, pp - h = d := ⟨_, rfl⟩
      have w1 : (st : Int) + (r : Int) = (s : Int) := by omega
      have w2 : IntKind.i64.wrap (s : Int) = (s : Int) := wrapN (by omega)
      have w3 : (s : Int) / 2 = (h : Int) := by omega
      have w4 : (h : Int) < (n : Int) := by omega
      have w4' : h < n := by omega
      have w5 : (pp : Int) - (h : Int) = (d : Int) := by omega
      have w6 : IntKind.i64.wrap (d : Int) = (d : Int) := wrapN (by omega)
      have w7 : (d : Int) < (n : Int) := by omega
      have w7' : d < n := by omega
      obtain ⟨u0, hu0, hu1, hu2⟩ := at_mid (s := L) (k := h - a) (by omega)
      obtain ⟨v0, hv0, hv1, hv2⟩ := at_mid (s := R) (k := d - m) (by omega)
      obtain ⟨TL, hTL⟩ : ∃ T, L.take (h - a) = T := ⟨_, rfl⟩
      obtain ⟨DL, hDL⟩ : ∃ D, L.drop (h - a + 1) = D := ⟨_, rfl⟩
      obtain ⟨TR, hTR⟩ : ∃ T, R.take (d - m) = T := ⟨_, rfl⟩
      obtain ⟨DR, hDR⟩ : ∃ D, R.drop (d - m + 1) = D := ⟨_, rfl⟩
      have lTL : TL.length = h - a := by rw [← hTL, List.length_take]; omega
      have lTR : TR.length = d - m := by rw [← hTR, List.length_take]; omega
      have lDL : DL.length = ll - (h - a + 1) := by rw [← hDL, List.length_drop, hll]
      rw [hTL, hDL] at hu0
      rw [hTR, hDR] at hv0
      have hEe := hEr.cast (ys := p ++ (TL ++ u0 :: DL) ++ (TR ++ v0 :: DR) ++ q) (by rw [← hu0, ← hv0])
      have HU := Lib.hid (And.intro hu0 (And.intro hu1 hu2))
      have HV := Lib.hid (And.intro hv0 (And.intro hv1 hv2))
      clear hu0 hu1 hu2 hv0 hv1 hv2 hTL hDL hTR hDR
      obtain ⟨f0, f1, fA, fl, fc, f3, hf⟩ := hform v0
      obtain ⟨s0, s1, sA, sl, sc, s3, hs⟩ := hform u0
      have c1 := (hEe.cast (ys := (p ++ (TL ++ u0 :: DL) ++ TR) ++ v0 :: (DR ++ q)) (by simp)).at (i := d) (by first | omega | (simp; omega)) hf
      have c0 := (hEe.cast (ys := (p ++ TL) ++ u0 :: (DL ++ (TR ++ v0 :: DR) ++ q)) (by simp)).at (i := h) (by first | omega | (simp; omega)) hs
      obtain ⟨z, hz⟩ : ∃ z, cf v0 u0 = z := ⟨_, rfl⟩
      go_wp2_with fail
      refine (wpIn_wide (n := 0)).1 ?_
      refine wpIn_region_X (l := 0) 14 (S := fun V : World => (V.cell? ⟨g, d * 4, none⟩ = some (Value.int .u64 f0) ∧ V.cell? ⟨g, d * 4 + 1, none⟩ = some (Value.int .u32 f1) ∧ V.cell? ⟨g, d * 4 + 2, none⟩ = some (Value.slice fA fl fc) ∧ V.cell? ⟨g, d * 4 + 3, none⟩ = some (Value.int .u64 f3)) ∧ (V.cell? ⟨g, h * 4, none⟩ = some (Value.int .u64 s0) ∧ V.cell? ⟨g, h * 4 + 1, none⟩ = some (Value.int .u32 s1) ∧ V.cell? ⟨g, h * 4 + 2, none⟩ = some (Value.slice sA sl sc) ∧ V.cell? ⟨g, h * 4 + 3, none⟩ = some (Value.int .u64 s3))) (by kernel_rfl) ⟨c1, c0⟩ (fun hS0 => ?_)
      refine wpAnyX_pure (i := 0) (oi := ⟨some 158, _, _, _, _, _⟩) (v := ?_) (by kernel_rfl) (by kernel_rfl) rfl (by kernel_rfl) (by kernel_rfl) (by kernel_rfl) (fun _ _ _ h => h) (Or.inl ⟨by rfl, ?_⟩) (by assumption) ?_
      rotate_left
      · intro w _; go_simp; (try (with_reducible rfl))
      (try simp only [Act.put, List.setIfInBounds_toArray, List.set_cons_zero, List.set_cons_succ])
      refine wpAnyX_pure (i := 1) (oi := ⟨some 159, _, _, _, _, _⟩) (v := ?_) (by kernel_rfl) (by kernel_rfl) rfl (by kernel_rfl) (by kernel_rfl) (by kernel_rfl) (fun _ _ _ h => h) (Or.inl ⟨by rfl, ?_⟩) (by assumption) ?_
      rotate_left
      · intro w _; go_simp; (try (with_reducible rfl))
      (try simp only [Act.put, List.setIfInBounds_toArray, List.set_cons_zero, List.set_cons_succ])
      refine wpAnyX_pure (i := 2) (oi := ⟨some 160, _, _, _, _, _⟩) (v := ?_) (by kernel_rfl) (by kernel_rfl) rfl (by kernel_rfl) (by kernel_rfl) (by kernel_rfl) (fun _ _ _ h => h) (Or.inl ⟨by rfl, ?_⟩) (by assumption) ?_
      rotate_left
      · intro w _; go_simp; (try (with_reducible rfl))
      (try simp only [Act.put, List.setIfInBounds_toArray, List.set_cons_zero, List.set_cons_succ])
      refine wpAnyX_pure (i := 3) (oi := ⟨some 161, _, _, _, _, _⟩) (v := ?_) (by kernel_rfl) (by kernel_rfl) rfl (by kernel_rfl) (by kernel_rfl) (by kernel_rfl) (fun _ _ _ h => h) (Or.inl ⟨by rfl, ?_⟩) (by assumption) ?_
      rotate_left
      · intro w _; go_simp; (try (with_reducible rfl))
      (try simp only [Act.put, List.setIfInBounds_toArray, List.set_cons_zero, List.set_cons_succ])
      refine wpAnyX_pure (i := 4) (oi := ⟨some 162, _, _, _, _, _⟩) (v := ?_) (by kernel_rfl) (by kernel_rfl) rfl (by kernel_rfl) (by kernel_rfl) (by kernel_rfl) (fun _ _ _ h => h) (Or.inl ⟨by rfl, ?_⟩) (by assumption) ?_
      rotate_left
      · intro w _; go_simp; (try (with_reducible rfl))
      (try simp only [Act.put, List.setIfInBounds_toArray, List.set_cons_zero, List.set_cons_succ])
      refine wpAnyX_pure (i := 5) (oi := ⟨some 163, _, _, _, _, _⟩) (v := ?_) (by kernel_rfl) (by kernel_rfl) rfl (by kernel_rfl) (by kernel_rfl) (by kernel_rfl) (fun _ _ _ h => h) (Or.inl ⟨by rfl, ?_⟩) (by assumption) ?_
      rotate_left
      · intro w _; go_simp; (try (with_reducible rfl))
      (try simp only [Act.put, List.setIfInBounds_toArray, List.set_cons_zero, List.set_cons_succ])
      refine wpAnyX_take (i := 6) (oi := ⟨some 164, _, _, _, _, _⟩) (v := ?_) (by kernel_rfl) (by kernel_rfl) (by kernel_rfl) rfl (by kernel_rfl) (by kernel_rfl) (by kernel_rfl) (by kernel_rfl) (fun _ _ _ h => h) (Or.inl ⟨by rfl, ?_⟩) (by assumption) ?_
      rotate_left
      · intro w hSw; (try dsimp only at hSw); (try go_split_ands); go_simp; (try (with_reducible rfl))
      (try simp only [Act.put, List.setIfInBounds_toArray, List.set_cons_zero, List.set_cons_succ])
      refine wpAnyX_pure (i := 7) (oi := ⟨some 165, _, _, _, _, _⟩) (v := ?_) (by kernel_rfl) (by kernel_rfl) rfl (by kernel_rfl) (by kernel_rfl) (by kernel_rfl) (fun _ _ _ h => h) (Or.inl ⟨by rfl, ?_⟩) (by assumption) ?_
      rotate_left
      · intro w _; go_simp; (try (with_reducible rfl))
      (try simp only [Act.put, List.setIfInBounds_toArray, List.set_cons_zero, List.set_cons_succ])
      refine wpAnyX_pure (i := 8) (oi := ⟨some 166, _, _, _, _, _⟩) (v := ?_) (by kernel_rfl) (by kernel_rfl) rfl (by kernel_rfl) (by kernel_rfl) (by kernel_rfl) (fun _ _ _ h => h) (Or.inl ⟨by rfl, ?_⟩) (by assumption) ?_
      rotate_left
      · intro w _; go_simp; (try (with_reducible rfl))
      (try simp only [Act.put, List.setIfInBounds_toArray, List.set_cons_zero, List.set_cons_succ])
      refine wpAnyX_pure (i := 9) (oi := ⟨some 167, _, _, _, _, _⟩) (v := ?_) (by kernel_rfl) (by kernel_rfl) rfl (by kernel_rfl) (by kernel_rfl) (by kernel_rfl) (fun _ _ _ h => h) (Or.inl ⟨by rfl, ?_⟩) (by assumption) ?_
      rotate_left
      · intro w _; go_simp; (try (with_reducible rfl))
      (try simp only [Act.put, List.setIfInBounds_toArray, List.set_cons_zero, List.set_cons_succ])
      refine wpAnyX_take (i := 10) (oi := ⟨some 168, _, _, _, _, _⟩) (v := ?_) (by kernel_rfl) (by kernel_rfl) (by kernel_rfl) rfl (by kernel_rfl) (by kernel_rfl) (by kernel_rfl) (by kernel_rfl) (fun _ _ _ h => h) (Or.inl ⟨by rfl, ?_⟩) (by assumption) ?_
      rotate_left
      · intro w hSw; (try dsimp only at hSw); (try go_split_ands); go_simp; (try (with_reducible rfl))
      (try simp only [Act.put, List.setIfInBounds_toArray, List.set_cons_zero, List.set_cons_succ])
      refine wpAnyX_one (i := 11) (o := ⟨some 169, _, _, _, _, _⟩) (by kernel_rfl) (by kernel_rfl) rfl (fun K hK => ?_)
      go_simp
      have hcc := hcmp v0 u0 wr.drew ((hk.trans hkr (fun _ _ h => h.elim id id)).trans (Seq.Kpt.drew _ _) (fun _ _ h => h.elim id id))
      rw [hf, hs, hz] at hcc
      refine hcc.mono ?_
      rintro e w5 ⟨rfl, hb5⟩
      clear hcc
      have hb5' : Below wr.heap.size wr w5 := (below_drew (Below.refl _ wr)).trans hb5
      have hE5 := ElV.kept hEe hb5'
      have hk5 := hkr.trans (Seq.Kpt.of_new (fun i => i = g) hb5') (fun _ _ h => h.elim id id)
      have c15 := (hE5.cast (ys := (p ++ (TL ++ u0 :: DL) ++ TR) ++ v0 :: (DR ++ q)) (by simp)).at (i := d) (by first | omega | (simp; omega)) hf
      have c05 := (hE5.cast (ys := (p ++ TL) ++ u0 :: (DL ++ (TR ++ v0 :: DR) ++ q)) (by simp)).at (i := h) (by first | omega | (simp; omega)) hs
      have c55 := And.intro c15 c05
      (try dsimp only)
      refine hK.out _ _ (.inr c55) ?_
      clear hK K
      (try simp only [Act.put, List.setIfInBounds_toArray, List.set_cons_zero, List.set_cons_succ])
      by_cases hz0 : z < 0
      ·
        refine wpAnyX_pure (i := 12) (oi := ⟨some 170, _, _, _, _, _⟩) (v := ?_) (by kernel_rfl) (by kernel_rfl) rfl (by kernel_rfl) (by kernel_rfl) (by kernel_rfl) (fun _ _ _ h => h) (Or.inl ⟨by rfl, ?_⟩) (by assumption) ?_
        rotate_left
        · intro w _; go_simp; (try (with_reducible rfl))
        (try simp only [Act.put, List.setIfInBounds_toArray, List.set_cons_zero, List.set_cons_succ])
        refine wpAnyX_pure (i := 13) (oi := ⟨some 171, _, _, _, _, _⟩) (v := ?_) (by kernel_rfl) (by kernel_rfl) rfl (by kernel_rfl) (by kernel_rfl) (by kernel_rfl) (fun _ _ _ h => h) (Or.inl ⟨by rfl, ?_⟩) (by assumption) ?_
        rotate_left
        · intro w _; go_simp; (try (with_reducible rfl))
        (try simp only [Act.put, List.setIfInBounds_toArray, List.set_cons_zero, List.set_cons_succ])
        refine wpAnyX_done (by kernel_rfl) ?_ _
        (try clear c15 c05 c55 c1 c0 hS0 hf hs)
        go_wp2
        go_roundw
        case rel =>
          refine ⟨st, h, rfl, by go_num, hst, by omega, by omega, hF1, ?_, ElV.cast hE5 (by rw [HU.out.1, HV.out.1]), hk5⟩
          rw [show nn - h - m = d - m + 1 by omega, HV.out.2.2, HU.out.2.1]
          intro v hv u hu
          have h1 := all_ahead hcf (by rw [← HV.out.2.2]; exact pw_take hRs _) (Lt.of_neg (by rw [hz]; exact hz0) : Lt cf v0 u0) v hv
          exact all_behind hcf (by rw [← HU.out.2.1]; exact pw_drop hLs _) h1 u hu
        case measure => simp [intOf]; omega
      ·
        refine wpAnyX_pure (i := 12) (oi := ⟨some 170, _, _, _, _, _⟩) (v := ?_) (by kernel_rfl) (by kernel_rfl) rfl (by kernel_rfl) (by kernel_rfl) (by kernel_rfl) (fun _ _ _ h => h) (Or.inl ⟨by rfl, ?_⟩) (by assumption) ?_
        rotate_left
        · intro w _; go_simp; (try (with_reducible rfl))
        (try simp only [Act.put, List.setIfInBounds_toArray, List.set_cons_zero, List.set_cons_succ])
        refine wpAnyX_pure (i := 13) (oi := ⟨some 171, _, _, _, _, _⟩) (v := ?_) (by kernel_rfl) (by kernel_rfl) rfl (by kernel_rfl) (by kernel_rfl) (by kernel_rfl) (fun _ _ _ h => h) (Or.inl ⟨by rfl, ?_⟩) (by assumption) ?_
        rotate_left
        · intro w _; go_simp; (try (with_reducible rfl))
        (try simp only [Act.put, List.setIfInBounds_toArray, List.set_cons_zero, List.set_cons_succ])
        refine wpAnyX_done (by kernel_rfl) ?_ _
        (try clear c15 c05 c55 c1 c0 hS0 hf hs)
        go_wp2
        go_roundw
        case rel =>
          refine ⟨h + 1, r, by go_num, rfl, by omega, by omega, hrh, ?_, hF2, ElV.cast hE5 (by rw [HU.out.1, HV.out.1]), hk5⟩
          rw [show h + 1 - a = h - a + 1 by omega, show nn - (h + 1) - m = d - m by omega, HU.out.2.2, HV.out.2.1]
          intro u hu v hv
          have h0 : Lt cf u0 v0 := Lt.of_not hcf (hLR u0 (by rw [HU.out.1]; simp) v0 (by rw [HV.out.1]; simp)) (by rw [hz]; exact hz0)
          have h1 := all_ahead hcf (by rw [← HU.out.2.2]; exact pw_take hLs _) h0 u hu
          exact all_behind hcf (by rw [← HV.out.2.1]; exact pw_drop hRs _) h1 v hv
        case measure => simp [intOf]; omega
    · obtain rfl : st = r := by omega
      have hlz : ¬ (st : Int) < (st : Int) := by omega
      clear hlt
      obtain ⟨en, hen⟩ : ∃ en : Nat, nn - st = en := ⟨_, rfl⟩
      have w1 : (nn : Int) - (st : Int) = (en : Int) := by omega
      have w2 : IntKind.i64.wrap (en : Int) = (en : Int) := wrapN (by omega)
      rw [hen] at hF1 hF2
      have hx1 := pw_cut hLs (st - a)
      have hx2 := pw_cut hRs (en - m)
      have hs1 := pw_take hLs (st - a)
      have hs2 := pw_drop hLs (st - a)
      have hs3 := pw_take hRs (en - m)
      have hs4 := pw_drop hRs (en - m)
      obtain ⟨L1, hL1⟩ : ∃ L1, L.take (st - a) = L1 := ⟨_, rfl⟩
      obtain ⟨L2, hL2'⟩ : ∃ L2, L.drop (st - a) = L2 := ⟨_, rfl⟩
      obtain ⟨R1, hR1⟩ : ∃ R1, R.take (en - m) = R1 := ⟨_, rfl⟩
      obtain ⟨R2, hR2'⟩ : ∃ R2, R.drop (en - m) = R2 := ⟨_, rfl⟩
      have hL12 : L = L1 ++ L2 := by rw [← hL1, ← hL2', List.take_append_drop]
      have hR12 : R = R1 ++ R2 := by rw [← hR1, ← hR2', List.take_append_drop]
      have lL1 : L1.length = st - a := by rw [← hL1, List.length_take]; omega
      have lL2 : L2.length = m - st := by rw [← hL2', List.length_drop]; omega
      have lR1 : R1.length = en - m := by rw [← hR1, List.length_take]; omega
      have lR2 : R2.length = b - en := by rw [← hR2', List.length_drop]; omega
      rw [hL1, hR2'] at hF1
      rw [hR1, hL2'] at hF2
      rw [hL1, hL2'] at hx1
      rw [hR1, hR2'] at hx2
      rw [hL1] at hs1
      rw [hL2'] at hs2
      rw [hR1] at hs3
      rw [hR2'] at hs4
      have hc1 : ∀ x ∈ L1, ∀ y ∈ R1, x < y := fun x hx y hy => hLR x (by rw [hL12]; simp [hx]) y (by rw [hR12]; simp [hy])
      have hc2 : ∀ x ∈ L2, ∀ y ∈ R2, x < y := fun x hx y hy => hLR x (by rw [hL12]; simp [hx]) y (by rw [hR12]; simp [hy])
      have hE1 := hEr.cast (ys := p ++ (L1 ++ L2) ++ (R1 ++ R2) ++ q) (by rw [← hL12, ← hR12])
      have finl : ∀ S1 S2 : List Nat, S1.Perm (L1 ++ R1) → S1.Pairwise (Lt cf) → S2.Perm (L2 ++ R2) → S2.Pairwise (Lt cf) → (S1 ++ S2).Perm (L ++ R) ∧ (S1 ++ S2).Pairwise (Lt cf) := by
        intro S1 S2 hP1 hS1 hP2 hS2
        refine ⟨?_, pw_append hS1 hS2 ?_⟩
        · rw [hL12, hR12]
          refine (hP1.append hP2).trans ?_
          rw [List.append_assoc, List.append_assoc]
          refine List.Perm.append_left L1 ?_
          rw [← List.append_assoc, ← List.append_assoc]
          exact List.Perm.append_right R2 List.perm_append_comm
        · intro x hx y hy
          have hx' := hP1.mem_iff.1 hx
          have hy' := hP2.mem_iff.1 hy
          rcases List.mem_append.1 hx' with hx' | hx' <;> rcases List.mem_append.1 hy' with hy' | hy'
          · exact hx1 x hx' y hy'
          · exact hF1 x hx' y hy'
          · exact hF2 x hx' y hy'
          · exact hx2 x hx' y hy'
      have FINL := Lib.hid finl
      clear finl hx1 hx2 hF1 hF2 hL1 hL2' hR1 hR2' hL12 hR12 hEr hLs hRs hLR hx
      by_cases v1 : st < m
      · by_cases v2 : m < en
        · have z1 : (st : Int) < (m : Int) := by omega
          have z2 : (m : Int) < (en : Int) := by omega
          go_wp2_with fail
          refine (rotV_any n c st m en g _ enc rest (p ++ L1) L2 R1 (R2 ++ q) wr (hE1.cast (by simp)) (by rw [List.length_append]; omega) (by omega) (by omega) (by omega) (by omega) (by simp only [List.length_append]; omega) hn2 hform ⟨gc, lb, rfl⟩).mono ?_
          rintro e WA ⟨rfl, hk7, hEA0⟩
          have hEA := hEA0.cast (ys := p ++ (L1 ++ R1) ++ (L2 ++ R2 ++ q)) (by simp)
          have hkA := hkr.trans hk7 (fun _ _ h => h.elim id id)
          by_cases x1 : a < st
          · by_cases x2 : st < M
            · have z1 : (a : Int) < (st : Int) := by omega
              have z2 : (st : Int) < (M : Int) := by omega
              go_wp2_with fail
              refine (IH a st M p L1 R1 (L2 ++ R2 ++ q) WA (by omega) (hEA.cast (by simp)) hp (by omega) (by omega) (by simp only [List.length_append]; omega) (by omega) (by omega) hs1 hs3 hc1 (hk.trans hkA (fun _ _ h => h.elim id id))).mono ?_
              rintro e WB ⟨rfl, S1, hP1, hS1, hk8, hEB⟩
              have hkB := hkA.trans hk8 (fun _ _ h => h.elim id id)
              have hS1l : S1.length = M - a := by rw [hP1.length_eq, List.length_append]; omega
              by_cases y1 : M < en
              · by_cases y2 : en < b
                · have z1 : (M : Int) < (en : Int) := by omega
                  have z2 : (en : Int) < (b : Int) := by omega
                  go_wp2_with fail
                  refine (IH M en b (p ++ S1) L2 R2 q WB (by omega) (hEB.cast (by simp)) (by rw [List.length_append, hS1l]; omega) (by omega) (by omega) hq (by omega) (by omega) hs2 hs4 hc2 (hk.trans hkB (fun _ _ h => h.elim id id))).mono ?_
                  rintro e WC ⟨rfl, S2, hP2, hS2, hk9, hEC⟩
                  have hkC := hkB.trans hk9 (fun _ _ h => h.elim id id)
                  go_wp2
                  go_end0
                  exact ⟨rfl, S1 ++ S2, (FINL.out _ _ hP1 hS1 hP2 hS2).1, (FINL.out _ _ hP1 hS1 hP2 hS2).2, hkC, hEC.cast (by simp)⟩
                · have z1 : (M : Int) < (en : Int) := by omega
                  have z2 : ¬ (en : Int) < (b : Int) := by omega
                  go_wp2
                  go_end0
                  exact ⟨rfl, S1 ++ (L2 ++ R2), (FINL.out _ _ hP1 hS1 (List.Perm.refl _) (by rw [List.eq_nil_of_length_eq_zero (l := R2) (by omega), List.append_nil]; exact hs2)).1, (FINL.out _ _ hP1 hS1 (List.Perm.refl _) (by rw [List.eq_nil_of_length_eq_zero (l := R2) (by omega), List.append_nil]; exact hs2)).2, hkB, hEB.cast (by simp)⟩
              · have z1 : ¬ (M : Int) < (en : Int) := by omega
                go_wp2
                go_end0
                exact ⟨rfl, S1 ++ (L2 ++ R2), (FINL.out _ _ hP1 hS1 (List.Perm.refl _) (by rw [List.eq_nil_of_length_eq_zero (l := L2) (by omega), List.nil_append]; exact hs4)).1, (FINL.out _ _ hP1 hS1 (List.Perm.refl _) (by rw [List.eq_nil_of_length_eq_zero (l := L2) (by omega), List.nil_append]; exact hs4)).2, hkB, hEB.cast (by simp)⟩
            · have z1 : (a : Int) < (st : Int) := by omega
              have z2 : ¬ (st : Int) < (M : Int) := by omega
              obtain ⟨S1, hP1, hS1, hEB⟩ : ∃ S1, S1.Perm (L1 ++ R1) ∧ S1.Pairwise (Lt cf) ∧ ElV enc rest g (p ++ S1 ++ (L2 ++ R2 ++ q)) WA := ⟨L1 ++ R1, List.Perm.refl _, by rw [List.eq_nil_of_length_eq_zero (l := R1) (by omega), List.append_nil]; exact hs1, hEA.cast (by simp)⟩
              obtain ⟨WB, hWB⟩ : ∃ WB, WA = WB := ⟨_, rfl⟩
              have hkB := hkA
              subst hWB
              have hS1l : S1.length = M - a := by rw [hP1.length_eq, List.length_append]; omega
              by_cases y1 : M < en
              · by_cases y2 : en < b
                · have z1 : (M : Int) < (en : Int) := by omega
                  have z2 : (en : Int) < (b : Int) := by omega
                  go_wp2_with fail
                  refine (IH M en b (p ++ S1) L2 R2 q WA (by omega) (hEB.cast (by simp)) (by rw [List.length_append, hS1l]; omega) (by omega) (by omega) hq (by omega) (by omega) hs2 hs4 hc2 (hk.trans hkB (fun _ _ h => h.elim id id))).mono ?_
                  rintro e WC ⟨rfl, S2, hP2, hS2, hk9, hEC⟩
                  have hkC := hkB.trans hk9 (fun _ _ h => h.elim id id)
                  go_wp2
                  go_end0
                  exact ⟨rfl, S1 ++ S2, (FINL.out _ _ hP1 hS1 hP2 hS2).1, (FINL.out _ _ hP1 hS1 hP2 hS2).2, hkC, hEC.cast (by simp)⟩
                · have z1 : (M : Int) < (en : Int) := by omega
                  have z2 : ¬ (en : Int) < (b : Int) := by omega
                  go_wp2
                  go_end0
                  exact ⟨rfl, S1 ++ (L2 ++ R2), (FINL.out _ _ hP1 hS1 (List.Perm.refl _) (by rw [List.eq_nil_of_length_eq_zero (l := R2) (by omega), List.append_nil]; exact hs2)).1, (FINL.out _ _ hP1 hS1 (List.Perm.refl _) (by rw [List.eq_nil_of_length_eq_zero (l := R2) (by omega), List.append_nil]; exact hs2)).2, hkB, hEB.cast (by simp)⟩
              · have z1 : ¬ (M : Int) < (en : Int) := by omega
                go_wp2
                go_end0
                exact ⟨rfl, S1 ++ (L2 ++ R2), (FINL.out _ _ hP1 hS1 (List.Perm.refl _) (by rw [List.eq_nil_of_length_eq_zero (l := L2) (by omega), List.nil_append]; exact hs4)).1, (FINL.out _ _ hP1 hS1 (List.Perm.refl _) (by rw [List.eq_nil_of_length_eq_zero (l := L2) (by omega), List.nil_append]; exact hs4)).2, hkB, hEB.cast (by simp)⟩
          · have z1 : ¬ (a : Int) < (st : Int) := by omega
            obtain ⟨S1, hP1, hS1, hEB⟩ : ∃ S1, S1.Perm (L1 ++ R1) ∧ S1.Pairwise (Lt cf) ∧ ElV enc rest g (p ++ S1 ++ (L2 ++ R2 ++ q)) WA := ⟨L1 ++ R1, List.Perm.refl _, by rw [List.eq_nil_of_length_eq_zero (l := L1) (by omega), List.nil_append]; exact hs3, hEA.cast (by simp)⟩
            obtain ⟨WB, hWB⟩ : ∃ WB, WA = WB := ⟨_, rfl⟩
            have hkB := hkA
            subst hWB
            have hS1l : S1.length = M - a := by rw [hP1.length_eq, List.length_append]; omega
            by_cases y1 : M < en
            · by_cases y2 : en < b
              · have z1 : (M : Int) < (en : Int) := by omega
                have z2 : (en : Int) < (b : Int) := by omega
                go_wp2_with fail
                refine (IH M en b (p ++ S1) L2 R2 q WA (by omega) (hEB.cast (by simp)) (by rw [List.length_append, hS1l]; omega) (by omega) (by omega) hq (by omega) (by omega) hs2 hs4 hc2 (hk.trans hkB (fun _ _ h => h.elim id id))).mono ?_
                rintro e WC ⟨rfl, S2, hP2, hS2, hk9, hEC⟩
                have hkC := hkB.trans hk9 (fun _ _ h => h.elim id id)
                go_wp2
                go_end0
                exact ⟨rfl, S1 ++ S2, (FINL.out _ _ hP1 hS1 hP2 hS2).1, (FINL.out _ _ hP1 hS1 hP2 hS2).2, hkC, hEC.cast (by simp)⟩
              · have z1 : (M : Int) < (en : Int) := by omega
                have z2 : ¬ (en : Int) < (b : Int) := by omega
                go_wp2
                go_end0
                exact ⟨rfl, S1 ++ (L2 ++ R2), (FINL.out _ _ hP1 hS1 (List.Perm.refl _) (by rw [List.eq_nil_of_length_eq_zero (l := R2) (by omega), List.append_nil]; exact hs2)).1, (FINL.out _ _ hP1 hS1 (List.Perm.refl _) (by rw [List.eq_nil_of_length_eq_zero (l := R2) (by omega), List.append_nil]; exact hs2)).2, hkB, hEB.cast (by simp)⟩
            · have z1 : ¬ (M : Int) < (en : Int) := by omega
              go_wp2
              go_end0
              exact ⟨rfl, S1 ++ (L2 ++ R2), (FINL.out _ _ hP1 hS1 (List.Perm.refl _) (by rw [List.eq_nil_of_length_eq_zero (l := L2) (by omega), List.nil_append]; exact hs4)).1, (FINL.out _ _ hP1 hS1 (List.Perm.refl _) (by rw [List.eq_nil_of_length_eq_zero (l := L2) (by omega), List.nil_append]; exact hs4)).2, hkB, hEB.cast (by simp)⟩
        · have z1 : (st : Int) < (m : Int) := by omega
          have z2 : ¬ (m : Int) < (en : Int) := by omega
          have hEA := hE1.cast (ys := p ++ (L1 ++ R1) ++ (L2 ++ R2 ++ q)) (by rw [List.eq_nil_of_length_eq_zero (l := R1) (by omega)]; simp)
          have hkA := hkr
          by_cases x1 : a < st
          · by_cases x2 : st < M
            · have z1 : (a : Int) < (st : Int) := by omega
              have z2 : (st : Int) < (M : Int) := by omega
              go_wp2_with fail
              refine (IH a st M p L1 R1 (L2 ++ R2 ++ q) wr (by omega) (hEA.cast (by simp)) hp (by omega) (by omega) (by simp only [List.length_append]; omega) (by omega) (by omega) hs1 hs3 hc1 (hk.trans hkA (fun _ _ h => h.elim id id))).mono ?_
              rintro e WB ⟨rfl, S1, hP1, hS1, hk8, hEB⟩
              have hkB := hkA.trans hk8 (fun _ _ h => h.elim id id)
              have hS1l : S1.length = M - a := by rw [hP1.length_eq, List.length_append]; omega
              by_cases y1 : M < en
              · by_cases y2 : en < b
                · have z1 : (M : Int) < (en : Int) := by omega
                  have z2 : (en : Int) < (b : Int) := by omega
                  go_wp2_with fail
                  refine (IH M en b (p ++ S1) L2 R2 q WB (by omega) (hEB.cast (by simp)) (by rw [List.length_append, hS1l]; omega) (by omega) (by omega) hq (by omega) (by omega) hs2 hs4 hc2 (hk.trans hkB (fun _ _ h => h.elim id id))).mono ?_
                  rintro e WC ⟨rfl, S2, hP2, hS2, hk9, hEC⟩
                  have hkC := hkB.trans hk9 (fun _ _ h => h.elim id id)
                  go_wp2
                  go_end0
                  exact ⟨rfl, S1 ++ S2, (FINL.out _ _ hP1 hS1 hP2 hS2).1, (FINL.out _ _ hP1 hS1 hP2 hS2).2, hkC, hEC.cast (by simp)⟩
                · have z1 : (M : Int) < (en : Int) := by omega
                  have z2 : ¬ (en : Int) < (b : Int) := by omega
                  go_wp2
                  go_end0
                  exact ⟨rfl, S1 ++ (L2 ++ R2), (FINL.out _ _ hP1 hS1 (List.Perm.refl _) (by rw [List.eq_nil_of_length_eq_zero (l := R2) (by omega), List.append_nil]; exact hs2)).1, (FINL.out _ _ hP1 hS1 (List.Perm.refl _) (by rw [List.eq_nil_of_length_eq_zero (l := R2) (by omega), List.append_nil]; exact hs2)).2, hkB, hEB.cast (by simp)⟩
              · have z1 : ¬ (M : Int) < (en : Int) := by omega
                go_wp2
                go_end0
                exact ⟨rfl, S1 ++ (L2 ++ R2), (FINL.out _ _ hP1 hS1 (List.Perm.refl _) (by rw [List.eq_nil_of_length_eq_zero (l := L2) (by omega), List.nil_append]; exact hs4)).1, (FINL.out _ _ hP1 hS1 (List.Perm.refl _) (by rw [List.eq_nil_of_length_eq_zero (l := L2) (by omega), List.nil_append]; exact hs4)).2, hkB, hEB.cast (by simp)⟩
            · have z1 : (a : Int) < (st : Int) := by omega
              have z2 : ¬ (st : Int) < (M : Int) := by omega
              obtain ⟨S1, hP1, hS1, hEB⟩ : ∃ S1, S1.Perm (L1 ++ R1) ∧ S1.Pairwise (Lt cf) ∧ ElV enc rest g (p ++ S1 ++ (L2 ++ R2 ++ q)) wr := ⟨L1 ++ R1, List.Perm.refl _, by rw [List.eq_nil_of_length_eq_zero (l := R1) (by omega), List.append_nil]; exact hs1, hEA.cast (by simp)⟩
              obtain ⟨WB, hWB⟩ : ∃ WB, wr = WB := ⟨_, rfl⟩
              have hkB := hkA
              subst hWB
              have hS1l : S1.length = M - a := by rw [hP1.length_eq, List.length_append]; omega
              by_cases y1 : M < en
              · by_cases y2 : en < b
                · have z1 : (M : Int) < (en : Int) := by omega
                  have z2 : (en : Int) < (b : Int) := by omega
                  go_wp2_with fail
                  refine (IH M en b (p ++ S1) L2 R2 q wr (by omega) (hEB.cast (by simp)) (by rw [List.length_append, hS1l]; omega) (by omega) (by omega) hq (by omega) (by omega) hs2 hs4 hc2 (hk.trans hkB (fun _ _ h => h.elim id id))).mono ?_
                  rintro e WC ⟨rfl, S2, hP2, hS2, hk9, hEC⟩
                  have hkC := hkB.trans hk9 (fun _ _ h => h.elim id id)
                  go_wp2
                  go_end0
                  exact ⟨rfl, S1 ++ S2, (FINL.out _ _ hP1 hS1 hP2 hS2).1, (FINL.out _ _ hP1 hS1 hP2 hS2).2, hkC, hEC.cast (by simp)⟩
                · have z1 : (M : Int) < (en : Int) := by omega
                  have z2 : ¬ (en : Int) < (b : Int) := by omega
                  go_wp2
                  go_end0
                  exact ⟨rfl, S1 ++ (L2 ++ R2), (FINL.out _ _ hP1 hS1 (List.Perm.refl _) (by rw [List.eq_nil_of_length_eq_zero (l := R2) (by omega), List.append_nil]; exact hs2)).1, (FINL.out _ _ hP1 hS1 (List.Perm.refl _) (by rw [List.eq_nil_of_length_eq_zero (l := R2) (by omega), List.append_nil]; exact hs2)).2, hkB, hEB.cast (by simp)⟩
              · have z1 : ¬ (M : Int) < (en : Int) := by omega
                go_wp2
                go_end0
                exact ⟨rfl, S1 ++ (L2 ++ R2), (FINL.out _ _ hP1 hS1 (List.Perm.refl _) (by rw [List.eq_nil_of_length_eq_zero (l := L2) (by omega), List.nil_append]; exact hs4)).1, (FINL.out _ _ hP1 hS1 (List.Perm.refl _) (by rw [List.eq_nil_of_length_eq_zero (l := L2) (by omega), List.nil_append]; exact hs4)).2, hkB, hEB.cast (by simp)⟩
          · have z1 : ¬ (a : Int) < (st : Int) := by omega
            obtain ⟨S1, hP1, hS1, hEB⟩ : ∃ S1, S1.Perm (L1 ++ R1) ∧ S1.Pairwise (Lt cf) ∧ ElV enc rest g (p ++ S1 ++ (L2 ++ R2 ++ q)) wr := ⟨L1 ++ R1, List.Perm.refl _, by rw [List.eq_nil_of_length_eq_zero (l := L1) (by omega), List.nil_append]; exact hs3, hEA.cast (by simp)⟩
            obtain ⟨WB, hWB⟩ : ∃ WB, wr = WB := ⟨_, rfl⟩
            have hkB := hkA
            subst hWB
            have hS1l : S1.length = M - a := by rw [hP1.length_eq, List.length_append]; omega
            by_cases y1 : M < en
            · by_cases y2 : en < b
              · have z1 : (M : Int) < (en : Int) := by omega
                have z2 : (en : Int) < (b : Int) := by omega
                go_wp2_with fail
                refine (IH M en b (p ++ S1) L2 R2 q wr (by omega) (hEB.cast (by simp)) (by rw [List.length_append, hS1l]; omega) (by omega) (by omega) hq (by omega) (by omega) hs2 hs4 hc2 (hk.trans hkB (fun _ _ h => h.elim id id))).mono ?_
                rintro e WC ⟨rfl, S2, hP2, hS2, hk9, hEC⟩
                have hkC := hkB.trans hk9 (fun _ _ h => h.elim id id)
                go_wp2
                go_end0
                exact ⟨rfl, S1 ++ S2, (FINL.out _ _ hP1 hS1 hP2 hS2).1, (FINL.out _ _ hP1 hS1 hP2 hS2).2, hkC, hEC.cast (by simp)⟩
              · have z1 : (M : Int) < (en : Int) := by omega
                have z2 : ¬ (en : Int) < (b : Int) := by omega
                go_wp2
                go_end0
                exact ⟨rfl, S1 ++ (L2 ++ R2), (FINL.out _ _ hP1 hS1 (List.Perm.refl _) (by rw [List.eq_nil_of_length_eq_zero (l := R2) (by omega), List.append_nil]; exact hs2)).1, (FINL.out _ _ hP1 hS1 (List.Perm.refl _) (by rw [List.eq_nil_of_length_eq_zero (l := R2) (by omega), List.append_nil]; exact hs2)).2, hkB, hEB.cast (by simp)⟩
            · have z1 : ¬ (M : Int) < (en : Int) := by omega
              go_wp2
              go_end0
              exact ⟨rfl, S1 ++ (L2 ++ R2), (FINL.out _ _ hP1 hS1 (List.Perm.refl _) (by rw [List.eq_nil_of_length_eq_zero (l := L2) (by omega), List.nil_append]; exact hs4)).1, (FINL.out _ _ hP1 hS1 (List.Perm.refl _) (by rw [List.eq_nil_of_length_eq_zero (l := L2) (by omega), List.nil_append]; exact hs4)).2, hkB, hEB.cast (by simp)⟩
      · have z1 : ¬ (st : Int) < (m : Int) := by omega
        have hEA := hE1.cast (ys := p ++ (L1 ++ R1) ++ (L2 ++ R2 ++ q)) (by rw [List.eq_nil_of_length_eq_zero (l := L2) (by omega)]; simp)
        have hkA := hkr
        by_cases x1 : a < st
        · by_cases x2 : st < M
          · have z1 : (a : Int) < (st : Int) := by omega
            have z2 : (st : Int) < (M : Int) := by omega
            go_wp2_with fail
            refine (IH a st M p L1 R1 (L2 ++ R2 ++ q) wr (by omega) (hEA.cast (by simp)) hp (by omega) (by omega) (by simp only [List.length_append]; omega) (by omega) (by omega) hs1 hs3 hc1 (hk.trans hkA (fun _ _ h => h.elim id id))).mono ?_
            rintro e WB ⟨rfl, S1, hP1, hS1, hk8, hEB⟩
            have hkB := hkA.trans hk8 (fun _ _ h => h.elim id id)
            have hS1l : S1.length = M - a := by rw [hP1.length_eq, List.length_append]; omega
            by_cases y1 : M < en
            · by_cases y2 : en < b
              · have z1 : (M : Int) < (en : Int) := by omega
                have z2 : (en : Int) < (b : Int) := by omega
                go_wp2_with fail
                refine (IH M en b (p ++ S1) L2 R2 q WB (by omega) (hEB.cast (by simp)) (by rw [List.length_append, hS1l]; omega) (by omega) (by omega) hq (by omega) (by omega) hs2 hs4 hc2 (hk.trans hkB (fun _ _ h => h.elim id id))).mono ?_
                rintro e WC ⟨rfl, S2, hP2, hS2, hk9, hEC⟩
                have hkC := hkB.trans hk9 (fun _ _ h => h.elim id id)
                go_wp2
                go_end0
                exact ⟨rfl, S1 ++ S2, (FINL.out _ _ hP1 hS1 hP2 hS2).1, (FINL.out _ _ hP1 hS1 hP2 hS2).2, hkC, hEC.cast (by simp)⟩
              · have z1 : (M : Int) < (en : Int) := by omega
                have z2 : ¬ (en : Int) < (b : Int) := by omega
                go_wp2
                go_end0
                exact ⟨rfl, S1 ++ (L2 ++ R2), (FINL.out _ _ hP1 hS1 (List.Perm.refl _) (by rw [List.eq_nil_of_length_eq_zero (l := R2) (by omega), List.append_nil]; exact hs2)).1, (FINL.out _ _ hP1 hS1 (List.Perm.refl _) (by rw [List.eq_nil_of_length_eq_zero (l := R2) (by omega), List.append_nil]; exact hs2)).2, hkB, hEB.cast (by simp)⟩
            · have z1 : ¬ (M : Int) < (en : Int) := by omega
              go_wp2
              go_end0
              exact ⟨rfl, S1 ++ (L2 ++ R2), (FINL.out _ _ hP1 hS1 (List.Perm.refl _) (by rw [List.eq_nil_of_length_eq_zero (l := L2) (by omega), List.nil_append]; exact hs4)).1, (FINL.out _ _ hP1 hS1 (List.Perm.refl _) (by rw [List.eq_nil_of_length_eq_zero (l := L2) (by omega), List.nil_append]; exact hs4)).2, hkB, hEB.cast (by simp)⟩
          · have z1 : (a : Int) < (st : Int) := by omega
            have z2 : ¬ (st : Int) < (M : Int) := by omega
            obtain ⟨S1, hP1, hS1, hEB⟩ : ∃ S1, S1.Perm (L1 ++ R1) ∧ S1.Pairwise (Lt cf) ∧ ElV enc rest g (p ++ S1 ++ (L2 ++ R2 ++ q)) wr := ⟨L1 ++ R1, List.Perm.refl _, by rw [List.eq_nil_of_length_eq_zero (l := R1) (by omega), List.append_nil]; exact hs1, hEA.cast (by simp)⟩
            obtain ⟨WB, hWB⟩ : ∃ WB, wr = WB := ⟨_, rfl⟩
            have hkB := hkA
            subst hWB
            have hS1l : S1.length = M - a := by rw [hP1.length_eq, List.length_append]; omega
            by_cases y1 : M < en
            · by_cases y2 : en < b
              · have z1 : (M : Int) < (en : Int) := by omega
                have z2 : (en : Int) < (b : Int) := by omega
                go_wp2_with fail
                refine (IH M en b (p ++ S1) L2 R2 q wr (by omega) (hEB.cast (by simp)) (by rw [List.length_append, hS1l]; omega) (by omega) (by omega) hq (by omega) (by omega) hs2 hs4 hc2 (hk.trans hkB (fun _ _ h => h.elim id id))).mono ?_
                rintro e WC ⟨rfl, S2, hP2, hS2, hk9, hEC⟩
                have hkC := hkB.trans hk9 (fun _ _ h => h.elim id id)
                go_wp2
                go_end0
                exact ⟨rfl, S1 ++ S2, (FINL.out _ _ hP1 hS1 hP2 hS2).1, (FINL.out _ _ hP1 hS1 hP2 hS2).2, hkC, hEC.cast (by simp)⟩
              · have z1 : (M : Int) < (en : Int) := by omega
                have z2 : ¬ (en : Int) < (b : Int) := by omega
                go_wp2
                go_end0
                exact ⟨rfl, S1 ++ (L2 ++ R2), (FINL.out _ _ hP1 hS1 (List.Perm.refl _) (by rw [List.eq_nil_of_length_eq_zero (l := R2) (by omega), List.append_nil]; exact hs2)).1, (FINL.out _ _ hP1 hS1 (List.Perm.refl _) (by rw [List.eq_nil_of_length_eq_zero (l := R2) (by omega), List.append_nil]; exact hs2)).2, hkB, hEB.cast (by simp)⟩
            · have z1 : ¬ (M : Int) < (en : Int) := by omega
              go_wp2
              go_end0
              exact ⟨rfl, S1 ++ (L2 ++ R2), (FINL.out _ _ hP1 hS1 (List.Perm.refl _) (by rw [List.eq_nil_of_length_eq_zero (l := L2) (by omega), List.nil_append]; exact hs4)).1, (FINL.out _ _ hP1 hS1 (List.Perm.refl _) (by rw [List.eq_nil_of_length_eq_zero (l := L2) (by omega), List.nil_append]; exact hs4)).2, hkB, hEB.cast (by simp)⟩
        · have z1 : ¬ (a : Int) < (st : Int) := by omega
          obtain ⟨S1, hP1, hS1, hEB⟩ : ∃ S1, S1.Perm (L1 ++ R1) ∧ S1.Pairwise (Lt cf) ∧ ElV enc rest g (p ++ S1 ++ (L2 ++ R2 ++ q)) wr := ⟨L1 ++ R1, List.Perm.refl _, by rw [List.eq_nil_of_length_eq_zero (l := L1) (by omega), List.nil_append]; exact hs3, hEA.cast (by simp)⟩
          obtain ⟨WB, hWB⟩ : ∃ WB, wr = WB := ⟨_, rfl⟩
          have hkB := hkA
          subst hWB
          have hS1l : S1.length = M - a := by rw [hP1.length_eq, List.length_append]; omega
          by_cases y1 : M < en
          · by_cases y2 : en < b
            · have z1 : (M : Int) < (en : Int) := by omega
              have z2 : (en : Int) < (b : Int) := by omega
              go_wp2_with fail
              refine (IH M en b (p ++ S1) L2 R2 q wr (by omega) (hEB.cast (by simp)) (by rw [List.length_append, hS1l]; omega) (by omega) (by omega) hq (by omega) (by omega) hs2 hs4 hc2 (hk.trans hkB (fun _ _ h => h.elim id id))).mono ?_
              rintro e WC ⟨rfl, S2, hP2, hS2, hk9, hEC⟩
              have hkC := hkB.trans hk9 (fun _ _ h => h.elim id id)
              go_wp2
              go_end0
              exact ⟨rfl, S1 ++ S2, (FINL.out _ _ hP1 hS1 hP2 hS2).1, (FINL.out _ _ hP1 hS1 hP2 hS2).2, hkC, hEC.cast (by simp)⟩
            · have z1 : (M : Int) < (en : Int) := by omega
              have z2 : ¬ (en : Int) < (b : Int) := by omega
              go_wp2
              go_end0
              exact ⟨rfl, S1 ++ (L2 ++ R2), (FINL.out _ _ hP1 hS1 (List.Perm.refl _) (by rw [List.eq_nil_of_length_eq_zero (l := R2) (by omega), List.append_nil]; exact hs2)).1, (FINL.out _ _ hP1 hS1 (List.Perm.refl _) (by rw [List.eq_nil_of_length_eq_zero (l := R2) (by omega), List.append_nil]; exact hs2)).2, hkB, hEB.cast (by simp)⟩
          · have z1 : ¬ (M : Int) < (en : Int) := by omega
            go_wp2
            go_end0
            exact ⟨rfl, S1 ++ (L2 ++ R2), (FINL.out _ _ hP1 hS1 (List.Perm.refl _) (by rw [List.eq_nil_of_length_eq_zero (l := L2) (by omega), List.nil_append]; exact hs4)).1, (FINL.out _ _ hP1 hS1 (List.Perm.refl _) (by rw [List.eq_nil_of_length_eq_zero (l := L2) (by omega), List.nil_append]; exact hs4)).2, hkB, hEB.cast (by simp)⟩
end Go.Proofs.Ytghblnldokpceaa.QV
/- slices.SortStableFunc over versions, walked: symMerge. -/
namespace Go.Proofs.Ytghblnldokpceaa.QV
open Go.RowKit Go.Proofs.YtghblnldokpceaaW.PrintWords Go.Proofs.Ytghblnldokpceaa.SeqW Go.Proofs.Ytghblnldokpceaa.SeqX Go.Shelf Go.Proofs.Ytghblnldokpceaa.Op Go.Proofs.Ytghblnldokpceaa.Stab
set_option linter.unusedVariables false
set_option linter.unusedSimpArgs false

set_option maxRecDepth 100000 in
set_option maxHeartbeats 16000000 in
theorem symV_le (g n c : Nat) (cf : Nat → Nat → Int) (gc : Nat) (lb : Array Value) (hcf : CmpOk cf) (enc : Nat → List Value) (rest : List Value) (w0 : World) (hn2 : n ≤ 5864062014805)
    (hcmp : CmpAtV cf enc gc lb g w0) (eg : ∀ args w, (callFunc gc args).run Try.prog w = .ok (.enter gc args) w) (hform : ∀ x, ∃ e m A l c d, enc x = [Value.int .u64 e, Value.int .u32 m, Value.slice A l c, Value.int .u64 d])
    (N : Nat) (IH : SymAtV g n c cf gc lb enc rest w0 N) (a m b : Nat) (p L R q : List Nat) (W : World) (hN : b - a ≤ N + 1) (hx : ElV enc rest g (p ++ L ++ R ++ q) W) (hp : p.length = a) (hL : a + L.length = m) (hR : m + R.length = b) (hq : b + q.length = n) (hL2 : 2 ≤ L.length) (hR2 : 2 ≤ R.length)
    (hLs : L.Pairwise (Lt cf)) (hRs : R.Pairwise (Lt cf)) (hLR : ∀ x ∈ L, ∀ y ∈ R, x < y) (hk : Seq.Kpt (fun i => i = g) w0 W) (hside : ¬ (a + b) / 2 < m) :
    Calls Try.prog 82 #[.slice (some ⟨g, 0, none⟩) n c, .int .i64 a, .int .i64 m, .int .i64 b, .func (.func gc) #[] lb] W fun e W' => e = .returned (.tuple #[]) ∧
        ∃ S, S.Perm (L ++ R) ∧ S.Pairwise (Lt cf) ∧ Seq.Kpt (fun i => i = g) W W' ∧ ElV enc rest g (p ++ S ++ q) W' := by
  have mixed : Try.prog.follows .mixedOrders = true := by kernel_rfl
  obtain ⟨ll, hll⟩ : ∃ ll : Nat, L.length = ll := ⟨_, rfl⟩
  obtain ⟨lr, hlr⟩ : ∃ lr : Nat, R.length = lr := ⟨_, rfl⟩
  have e1 : (m : Int) - (a : Int) = (ll : Int) := by omega
  have e2 : IntKind.i64.wrap (ll : Int) = (ll : Int) := wrapN (by omega)
  have e3' : ¬ (ll : Int) = 1 := by omega
  have e3n : ¬ ll = 1 := by omega
  have e4 : (b : Int) - (m : Int) = (lr : Int) := by omega
  have e5 : IntKind.i64.wrap (lr : Int) = (lr : Int) := wrapN (by omega)
  have e6' : ¬ (lr : Int) = 1 := by omega
  have e3 : ((ll : Int) == 1) = false := by simp; omega
  have e6 : ((lr : Int) == 1) = false := by simp; omega
  have e6n : ¬ lr = 1 := by omega
  obtain ⟨s0, hs0⟩ : ∃ s0 : Nat, a + b = s0 := ⟨_, rfl⟩
  obtain ⟨M, hM⟩ : ∃ M : Nat, s0 / 2 = M := ⟨_, rfl⟩
  obtain ⟨nn, hnn⟩ : ∃ nn : Nat, M + m = nn := ⟨_, rfl⟩
  obtain ⟨pp, hpp⟩ : ∃ pp : Nat, nn - 1 = pp := ⟨_, rfl⟩
  have f1 : (a : Int) + (b : Int) = (s0 : Int) := by omega
  have f2 : IntKind.i64.wrap (s0 : Int) = (s0 : Int) := wrapN (by omega)
  have f3 : (s0 : Int) / 2 = (M : Int) := by omega
  have f4 : (M : Int) + (m : Int) = (nn : Int) := by omega
  have f5 : IntKind.i64.wrap (nn : Int) = (nn : Int) := wrapN (by omega)
  have f6 : (nn : Int) - 1 = (pp : Int) := by omega
  have f7 : IntKind.i64.wrap (pp : Int) = (pp : Int) := wrapN (by omega)
  have hgz : ¬ (M : Int) < (m : Int) := by omega
  go_enter Try.func82, Try.ntmps82
  go_wp2_with fail
  clear e1 e2 e3 e3' e3n e4 e5 e6 e6' e6n f1 f2 f3 f4 f5 f6 f7 hgz
  go_loopw [20, 21] (fun iv jv wr => ∃ (st r : Nat), iv = .int .i64 (st : Int) ∧ jv = .int .i64 (r : Int) ∧ a ≤ st ∧ st ≤ r ∧ r ≤ m ∧ (∀ u ∈ L.take (st - a), ∀ v ∈ R.drop (nn - st - m), Lt cf u v) ∧ (∀ v ∈ R.take (nn - r - m), ∀ u ∈ L.drop (r - a), Lt cf v u) ∧ ElV enc rest g (p ++ L ++ R ++ q) wr ∧ Seq.Kpt (fun i => i = g) W wr) (fun iv jv _ => (intOf jv).toNat - (intOf iv).toNat)
  case atStart => exact ⟨a, m, rfl, rfl, Nat.le_refl _, by omega, Nat.le_refl _, by rw [show a - a = 0 by omega]; simp, by rw [List.drop_of_length_le (l := L) (by omega)]; simp, hx, Seq.Kpt.refl _ _⟩
  case round =>
    obtain ⟨st, r, rfl, rfl, hst, hsr, hrh, hF1, hF2, hEr, hkr⟩ := hrel
    by_cases hlt : st < r
    · have hlz : (st : Int) < (r : Int) := by omega
      obtain ⟨s, hs⟩ : ∃ s : Nat, st + r = s := ⟨_, rfl⟩
      obtain ⟨h, hh⟩ : ∃ h : Nat, s / 2 = h := ⟨_, rfl⟩
      obtain ⟨d, hd⟩ : ∃ d : Nat, pp - h = d := ⟨_, rfl⟩
      have w1 : (st : Int) + (r : Int) = (s : Int) := by omega
      have w2 : IntKind.i64.wrap (s : Int) = (s : Int) := wrapN (by omega)
      have w3 : (s : Int) / 2 = (h : Int) := by omega
      have w4 : (h : Int) < (n : Int) := by omega
      have w4' : h < n := by omega
      have w5 : (pp : Int) - (h : Int) = (d : Int) := by omega
      have w6 : IntKind.i64.wrap (d : Int) = (d : Int) := wrapN (by omega)
      have w7 : (d : Int) < (n : Int) := by omega
      have w7' : d < n := by omega
      obtain ⟨u0, hu0, hu1, hu2⟩ := at_mid (s := L) (k := h - a) (by omega)
      obtain ⟨v0, hv0, hv1, hv2⟩ := at_mid (s := R) (k := d - m) (by omega)
      obtain ⟨TL, hTL⟩ : ∃ T, L.take (h - a) = T := ⟨_, rfl⟩
      obtain ⟨DL, hDL⟩ : ∃ D, L.drop (h - a + 1) = D := ⟨_, rfl⟩
      obtain ⟨TR, hTR⟩ : ∃ T, R.take (d - m) = T := ⟨_, rfl⟩
      obtain ⟨DR, hDR⟩ : ∃ D, R.drop (d - m + 1) = D := ⟨_, rfl⟩
      have lTL : TL.length = h - a := by rw [← hTL, List.length_take]; omega
      have lTR : TR.length = d - m := by rw [← hTR, List.length_take]; omega
      have lDL : DL.length = ll - (h - a + 1) := by rw [← hDL, List.length_drop, hll]
      rw [hTL, hDL] at hu0
      rw [hTR, hDR] at hv0
      have hEe := hEr.cast (ys := p ++ (TL ++ u0 :: DL) ++ (TR ++ v0 :: DR) ++ q) (by rw [← hu0, ← hv0])
      have HU := Lib.hid (And.intro hu0 (And.intro hu1 hu2))
      have HV := Lib.hid (And.intro hv0 (And.intro hv1 hv2))
      clear hu0 hu1 hu2 hv0 hv1 hv2 hTL hDL hTR hDR
      obtain ⟨f0, f1, fA, fl, fc, f3, hf⟩ := hform v0
      obtain ⟨s0, s1, sA, sl, sc, s3, hs⟩ := hform u0
      have c1 := (hEe.cast (ys := (p ++ (TL ++ u0 :: DL) ++ TR) ++ v0 :: (DR ++ q)) (by simp)).at (i := d) (by first | omega | (simp; omega)) hf
      have c0 := (hEe.cast (ys := (p ++ TL) ++ u0 :: (DL ++ (TR ++ v0 :: DR) ++ q)) (by simp)).at (i := h) (by first | omega | (simp; omega)) hs
      obtain ⟨z, hz⟩ : ∃ z, cf v0 u0 = z := ⟨_, rfl⟩
      go_wp2_with fail
      refine (wpIn_wide (n := 0)).1 ?_
      refine wpIn_region_X (l := 0) 14 (S := fun V : World => (V.cell? ⟨g, d * 4, none⟩ = some (Value.int .u64 f0) ∧ V.cell? ⟨g, d * 4 + 1, none⟩ = some (Value.int .u32 f1) ∧ V.cell? ⟨g, d * 4 + 2, none⟩ = some (Value.slice fA fl fc) ∧ V.cell? ⟨g, d * 4 + 3, none⟩ = some (Value.int .u64 f3)) ∧ (V.cell? ⟨g, h * 4, none⟩ = some (Value.int .u64 s0) ∧ V.cell? ⟨g, h * 4 + 1, none⟩ = some (Value.int .u32 s1) ∧ V.cell? ⟨g, h * 4 + 2, none⟩ = some (Value.slice sA sl sc) ∧ V.cell? ⟨g, h * 4 + 3, none⟩ = some (Value.int .u64 s3))) (by kernel_rfl) ⟨c1, c0⟩ (fun hS0 => ?_)
      refine wpAnyX_pure (i := 0) (oi := ⟨some 158, _, _, _, _, _⟩) (v := ?_) (by kernel_rfl) (by kernel_rfl) rfl (by kernel_rfl) (by kernel_rfl) (by kernel_rfl) (fun _ _ _ h => h) (Or.inl ⟨by rfl, ?_⟩) (by assumption) ?_
      rotate_left
      · intro w _; go_simp; (try (with_reducible rfl))
      (try simp only [Act.put, List.setIfInBounds_toArray, List.set_cons_zero, List.set_cons_succ])
      refine wpAnyX_pure (i := 1) (oi := ⟨some 159, _, _, _, _, _⟩) (v := ?_) (by kernel_rfl) (by kernel_rfl) rfl (by kernel_rfl) (by kernel_rfl) (by kernel_rfl) (fun _ _ _ h => h) (Or.inl ⟨by rfl, ?_⟩) (by assumption) ?_
      rotate_left
      · intro w _; go_simp; (try (with_reducible rfl))
      (try simp only [Act.put, List.setIfInBounds_toArray, List.set_cons_zero, List.set_cons_succ])
      refine wpAnyX_pure (i := 2) (oi := ⟨some 160, _, _, _, _, _⟩) (v := ?_) (by kernel_rfl) (by kernel_rfl) rfl (by kernel_rfl) (by kernel_rfl) (by kernel_rfl) (fun _ _ _ h => h) (Or.inl ⟨by rfl, ?_⟩) (by assumption) ?_
      rotate_left
      · intro w _; go_simp; (try (with_reducible rfl))
      (try simp only [Act.put, List.setIfInBounds_toArray, List.set_cons_zero, List.set_cons_succ])
      refine wpAnyX_pure (i := 3) (oi := ⟨some 161, _, _, _, _, _⟩) (v := ?_) (by kernel_rfl) (by kernel_rfl) rfl (by kernel_rfl) (by kernel_rfl) (by kernel_rfl) (fun _ _ _ h => h) (Or.inl ⟨by rfl, ?_⟩) (by assumption) ?_
      rotate_left
      · intro w _; go_simp; (try (with_reducible rfl))
      (try simp only [Act.put, List.setIfInBounds_toArray, List.set_cons_zero, List.set_cons_succ])
      refine wpAnyX_pure (i := 4) (oi := ⟨some 162, _, _, _, _, _⟩) (v := ?_) (by kernel_rfl) (by kernel_rfl) rfl (by kernel_rfl) (by kernel_rfl) (by kernel_rfl) (fun _ _ _ h => h) (Or.inl ⟨by rfl, ?_⟩) (by assumption) ?_
      rotate_left
      · intro w _; go_simp; (try (with_reducible rfl))
      (try simp only [Act.put, List.setIfInBounds_toArray, List.set_cons_zero, List.set_cons_succ])
      refine wpAnyX_pure (i := 5) (oi := ⟨some 163, _, _, _, _, _⟩) (v := ?_) (by kernel_rfl) (by kernel_rfl) rfl (by kernel_rfl) (by kernel_rfl) (by kernel_rfl) (fun _ _ _ h => h) (Or.inl ⟨by rfl, ?_⟩) (by assumption) ?_
      rotate_left
      · intro w _; go_simp; (try (with_reducible rfl))
      (try simp only [Act.put, List.setIfInBounds_toArray, List.set_cons_zero, List.set_cons_succ])
      refine wpAnyX_take (i := 6) (oi := ⟨some 164, _, _, _, _, _⟩) (v := ?_) (by kernel_rfl) (by kernel_rfl) (by kernel_rfl) rfl (by kernel_rfl) (by kernel_rfl) (by kernel_rfl) (by kernel_rfl) (fun _ _ _ h => h) (Or.inl ⟨by rfl, ?_⟩) (by assumption) ?_
      rotate_left
      · intro w hSw; (try dsimp only at hSw); (try go_split_ands); go_simp; (try (with_reducible rfl))
      (try simp only [Act.put, List.setIfInBounds_toArray, List.set_cons_zero, List.set_cons_succ])
      refine wpAnyX_pure (i := 7) (oi := ⟨some 165, _, _, _, _, _⟩) (v := ?_) (by kernel_rfl) (by kernel_rfl) rfl (by kernel_rfl) (by kernel_rfl) (by kernel_rfl) (fun _ _ _ h => h) (Or.inl ⟨by rfl, ?_⟩) (by assumption) ?_
      rotate_left
      · intro w _; go_simp; (try (with_reducible rfl))
      (try simp only [Act.put, List.setIfInBounds_toArray, List.set_cons_zero, List.set_cons_succ])
      refine wpAnyX_pure (i := 8) (oi := ⟨some 166, _, _, _, _, _⟩) (v := ?_) (by kernel_rfl) (by kernel_rfl) rfl (by kernel_rfl) (by kernel_rfl) (by kernel_rfl) (fun _ _ _ h => h) (Or.inl ⟨by rfl, ?_⟩) (by assumption) ?_
      rotate_left
      · intro w _; go_simp; (try (with_reducible rfl))
      (try simp only [Act.put, List.setIfInBounds_toArray, List.set_cons_zero, List.set_cons_succ])
      refine wpAnyX_pure (i := 9) (oi := ⟨some 167, _, _, _, _, _⟩) (v := ?_) (by kernel_rfl) (by kernel_rfl) rfl (by kernel_rfl) (by kernel_rfl) (by kernel_rfl) (fun _ _ _ h => h) (Or.inl ⟨by rfl, ?_⟩) (by assumption) ?_
      rotate_left
      · intro w _; go_simp; (try (with_reducible rfl))
      (try simp only [Act.put, List.setIfInBounds_toArray, List.set_cons_zero, List.set_cons_succ])
      refine wpAnyX_take (i := 10) (oi := ⟨some 168, _, _, _, _, _⟩) (v := ?_) (by kernel_rfl) (by kernel_rfl) (by kernel_rfl) rfl (by kernel_rfl) (by kernel_rfl) (by kernel_rfl) (by kernel_rfl) (fun _ _ _ h => h) (Or.inl ⟨by rfl, ?_⟩) (by assumption) ?_
      rotate_left
      · intro w hSw; (try dsimp only at hSw); (try go_split_ands); go_simp; (try (with_reducible rfl))
      (try simp only [Act.put, List.setIfInBounds_toArray, List.set_cons_zero, List.set_cons_succ])
      refine wpAnyX_one (i := 11) (o := ⟨some 169, _, _, _, _, _⟩) (by kernel_rfl) (by kernel_rfl) rfl (fun K hK => ?_)
      go_simp
      have hcc := hcmp v0 u0 wr.drew ((hk.trans hkr (fun _ _ h => h.elim id id)).trans (Seq.Kpt.drew _ _) (fun _ _ h => h.elim id id))
      rw [hf, hs, hz] at hcc
      refine hcc.mono ?_
      rintro e w5 ⟨rfl, hb5⟩
      clear hcc
      have hb5' : Below wr.heap.size wr w5 := (below_drew (Below.refl _ wr)).trans hb5
      have hE5 := ElV.kept hEe hb5'
      have hk5 := hkr.trans (Seq.Kpt.of_new (fun i => i = g) hb5') (fun _ _ h => h.elim id id)
      have c15 := (hE5.cast (ys := (p ++ (TL ++ u0 :: DL) ++ TR) ++ v0 :: (DR ++ q)) (by simp)).at (i := d) (by first | omega | (simp; omega)) hf
      have c05 := (hE5.cast (ys := (p ++ TL) ++ u0 :: (DL ++ (TR ++ v0 :: DR) ++ q)) (by simp)).at (i := h) (by first | omega | (simp; omega)) hs
      have c55 := And.intro c15 c05
      (try dsimp only)
      refine hK.out _ _ (.inr c55) ?_
      clear hK K
      (try simp only [Act.put, List.setIfInBounds_toArray, List.set_cons_zero, List.set_cons_succ])
      by_cases hz0 : z < 0
      ·
        refine wpAnyX_pure (i := 12) (oi := ⟨some 170, _, _, _, _, _⟩) (v := ?_) (by kernel_rfl) (by kernel_rfl) rfl (by kernel_rfl) (by kernel_rfl) (by kernel_rfl) (fun _ _ _ h => h) (Or.inl ⟨by rfl, ?_⟩) (by assumption) ?_
        rotate_left
        · intro w _; go_simp; (try (with_reducible rfl))
        (try simp only [Act.put, List.setIfInBounds_toArray, List.set_cons_zero, List.set_cons_succ])
        refine wpAnyX_pure (i := 13) (oi := ⟨some 171, _, _, _, _, _⟩) (v := ?_) (by kernel_rfl) (by kernel_rfl) rfl (by kernel_rfl) (by kernel_rfl) (by kernel_rfl) (fun _ _ _ h => h) (Or.inl ⟨by rfl, ?_⟩) (by assumption) ?_
        rotate_left
        · intro w _; go_simp; (try (with_reducible rfl))
        (try simp only [Act.put, List.setIfInBounds_toArray, List.set_cons_zero, List.set_cons_succ])
        refine wpAnyX_done (by kernel_rfl) ?_ _
        (try clear c15 c05 c55 c1 c0 hS0 hf hs)
        go_wp2
        go_roundw
        case rel =>
          refine ⟨st, h, rfl, by go_num, hst, by omega, by omega, hF1, ?_, ElV.cast hE5 (by rw [HU.out.1, HV.out.1]), hk5⟩
          rw [show nn - h - m = d - m + 1 by omega, HV.out.2.2, HU.out.2.1]
          intro v hv u hu
          have h1 := all_ahead hcf (by rw [← HV.out.2.2]; exact pw_take hRs _) (Lt.of_neg (by rw [hz]; exact hz0) : Lt cf v0 u0) v hv
          exact all_behind hcf (by rw [← HU.out.2.1]; exact pw_drop hLs _) h1 u hu
        case measure => simp [intOf]; omega
      ·
        refine wpAnyX_pure (i := 12) (oi := ⟨some 170, _, _, _, _, _⟩) (v := ?_) (by kernel_rfl) (by kernel_rfl) rfl (by kernel_rfl) (by kernel_rfl) (by kernel_rfl) (fun _ _ _ h => h) (Or.inl ⟨by rfl, ?_⟩) (by assumption) ?_
        rotate_left
        · intro w _; go_simp; (try (with_reducible rfl))
        (try simp only [Act.put, List.setIfInBounds_toArray, List.set_cons_zero, List.set_cons_succ])
        refine wpAnyX_pure (i := 13) (oi := ⟨some 171, _, _, _, _, _⟩) (v := ?_) (by kernel_rfl) (by kernel_rfl) rfl (by kernel_rfl) (by kernel_rfl) (by kernel_rfl) (fun _ _ _ h => h) (Or.inl ⟨by rfl, ?_⟩) (by assumption) ?_
        rotate_left
        · intro w _; go_simp; (try (with_reducible rfl))
        (try simp only [Act.put, List.setIfInBounds_toArray, List.set_cons_zero, List.set_cons_succ])
        refine wpAnyX_done (by kernel_rfl) ?_ _
        (try clear c15 c05 c55 c1 c0 hS0 hf hs)
        go_wp2
        go_roundw
        case rel =>
          refine ⟨h + 1, r, by go_num, rfl, by omega, by omega, hrh, ?_, hF2, ElV.cast hE5 (by rw [HU.out.1, HV.out.1]), hk5⟩
          rw [show h + 1 - a = h - a + 1 by omega, show nn - (h + 1) - m = d - m by omega, HU.out.2.2, HV.out.2.1]
          intro u hu v hv
          have h0 : Lt cf u0 v0 := Lt.of_not hcf (hLR u0 (by rw [HU.out.1]; simp) v0 (by rw [HV.out.1]; simp)) (by rw [hz]; exact hz0)
          have h1 := all_ahead hcf (by rw [← HU.out.2.2]; exact pw_take hLs _) h0 u hu
          exact all_behind hcf (by rw [← HV.out.2.1]; exact pw_drop hRs _) h1 v hv
        case measure => simp [intOf]; omega
    · obtain rfl : st = r := by omega
      have hlz : ¬ (st : Int) < (st : Int) := by omega
      clear hlt
      obtain ⟨en, hen⟩ : ∃ en : Nat, nn - st = en := ⟨_, rfl⟩
      have w1 : (nn : Int) - (st : Int) = (en : Int) := by omega
      have w2 : IntKind.i64.wrap (en : Int) = (en : Int) := wrapN (by omega)
      rw [hen] at hF1 hF2
      have hx1 := pw_cut hLs (st - a)
      have hx2 := pw_cut hRs (en - m)
      have hs1 := pw_take hLs (st - a)
      have hs2 := pw_drop hLs (st - a)
      have hs3 := pw_take hRs (en - m)
      have hs4 := pw_drop hRs (en - m)
      obtain ⟨L1, hL1⟩ : ∃ L1, L.take (st - a) = L1 := ⟨_, rfl⟩
      obtain ⟨L2, hL2'⟩ : ∃ L2, L.drop (st - a) = L2 := ⟨_, rfl⟩
      obtain ⟨R1, hR1⟩ : ∃ R1, R.take (en - m) = R1 := ⟨_, rfl⟩
      obtain ⟨R2, hR2'⟩ : ∃ R2, R.drop (en - m) = R2 := ⟨_, rfl⟩
      have hL12 : L = L1 ++ L2 := by rw [← hL1, ← hL2', List.take_append_drop]
      have hR12 : R = R1 ++ R2 := by rw [← hR1, ← hR2', List.take_append_drop]
      have lL1 : L1.length = st - a := by rw [← hL1, List.length_take]; omega
      have lL2 : L2.length = m - st := by rw [← hL2', List.length_drop]; omega
      have lR1 : R1.length = en - m := by rw [← hR1, List.length_take]; omega
      have lR2 : R2.length = b - en := by rw [← hR2', List.length_drop]; omega
      rw [hL1, hR2'] at hF1
      rw [hR1, hL2'] at hF2
      rw [hL1, hL2'] at hx1
      rw [hR1, hR2'] at hx2
      rw [hL1] at hs1
      rw [hL2'] at hs2
      rw [hR1] at hs3
      rw [hR2'] at hs4
      have hc1 : ∀ x ∈ L1, ∀ y ∈ R1, x < y := fun x hx y hy => hLR x (by rw [hL12]; simp [hx]) y (by rw [hR12]; simp [hy])
      have hc2 : ∀ x ∈ L2, ∀ y ∈ R2, x < y := fun x hx y hy => hLR x (by rw [hL12]; simp [hx]) y (by rw [hR12]; simp [hy])
      have hE1 := hEr.cast (ys := p ++ (L1 ++ L2) ++ (R1 ++ R2) ++ q) (by rw [← hL12, ← hR12])
      have finl : ∀ S1 S2 : List Nat, S1.Perm (L1 ++ R1) → S1.Pairwise (Lt cf) → S2.Perm (L2 ++ R2) → S2.Pairwise (Lt cf) → (S1 ++ S2).Perm (L ++ R) ∧ (S1 ++ S2).Pairwise (Lt cf) := by
        intro S1 S2 hP1 hS1 hP2 hS2
        refine ⟨?_, pw_append hS1 hS2 ?_⟩
        · rw [hL12, hR12]
          refine (hP1.append hP2).trans ?_
          rw [List.append_assoc, List.append_assoc]
          refine List.Perm.append_left L1 ?_
          rw [← List.append_assoc, ← List.append_assoc]
          exact List.Perm.append_right R2 List.perm_append_comm
        · intro x hx y hy
          have hx' := hP1.mem_iff.1 hx
          have hy' := hP2.mem_iff.1 hy
          rcases List.mem_append.1 hx' with hx' | hx' <;> rcases List.mem_append.1 hy' with hy' | hy'
          · exact hx1 x hx' y hy'
          · exact hF1 x hx' y hy'
          · exact hF2 x hx' y hy'
          · exact hx2 x hx' y hy'
      have FINL := Lib.hid finl
      clear finl hx1 hx2 hF1 hF2 hL1 hL2' hR1 hR2' hL12 hR12 hEr hLs hRs hLR hx
      by_cases v1 : st < m
      · by_cases v2 : m < en
        · have z1 : (st : Int) < (m : Int) := by omega
          have z2 : (m : Int) < (en : Int) := by omega
          go_wp2_with fail
          refine (rotV_any n c st m en g _ enc rest (p ++ L1) L2 R1 (R2 ++ q) wr (hE1.cast (by simp)) (by rw [List.length_append]; omega) (by omega) (by omega) (by omega) (by omega) (by simp only [List.length_append]; omega) hn2 hform ⟨gc, lb, rfl⟩).mono ?_
          rintro e WA ⟨rfl, hk7, hEA0⟩
          have hEA := hEA0.cast (ys := p ++ (L1 ++ R1) ++ (L2 ++ R2 ++ q)) (by simp)
          have hkA := hkr.trans hk7 (fun _ _ h => h.elim id id)
          by_cases x1 : a < st
          · by_cases x2 : st < M
            · have z1 : (a : Int) < (st : Int) := by omega
              have z2 : (st : Int) < (M : Int) := by omega
              go_wp2_with fail
              refine (IH a st M p L1 R1 (L2 ++ R2 ++ q) WA (by omega) (hEA.cast (by simp)) hp (by omega) (by omega) (by simp only [List.length_append]; omega) (by omega) (by omega) hs1 hs3 hc1 (hk.trans hkA (fun _ _ h => h.elim id id))).mono ?_
              rintro e WB ⟨rfl, S1, hP1, hS1, hk8, hEB⟩
              have hkB := hkA.trans hk8 (fun _ _ h => h.elim id id)
              have hS1l : S1.length = M - a := by rw [hP1.length_eq, List.length_append]; omega
              by_cases y1 : M < en
              · by_cases y2 : en < b
                · have z1 : (M : Int) < (en : Int) := by omega
                  have z2 : (en : Int) < (b : Int) := by omega
                  go_wp2_with fail
                  refine (IH M en b (p ++ S1) L2 R2 q WB (by omega) (hEB.cast (by simp)) (by rw [List.length_append, hS1l]; omega) (by omega) (by omega) hq (by omega) (by omega) hs2 hs4 hc2 (hk.trans hkB (fun _ _ h => h.elim id id))).mono ?_
                  rintro e WC ⟨rfl, S2, hP2, hS2, hk9, hEC⟩
                  have hkC := hkB.trans hk9 (fun _ _ h => h.elim id id)
                  go_wp2
                  go_end0
                  exact ⟨rfl, S1 ++ S2, (FINL.out _ _ hP1 hS1 hP2 hS2).1, (FINL.out _ _ hP1 hS1 hP2 hS2).2, hkC, hEC.cast (by simp)⟩
                · have z1 : (M : Int) < (en : Int) := by omega
                  have z2 : ¬ (en : Int) < (b : Int) := by omega
                  go_wp2
                  go_end0
                  exact ⟨rfl, S1 ++ (L2 ++ R2), (FINL.out _ _ hP1 hS1 (List.Perm.refl _) (by rw [List.eq_nil_of_length_eq_zero (l := R2) (by omega), List.append_nil]; exact hs2)).1, (FINL.out _ _ hP1 hS1 (List.Perm.refl _) (by rw [List.eq_nil_of_length_eq_zero (l := R2) (by omega), List.append_nil]; exact hs2)).2, hkB, hEB.cast (by simp)⟩
              · have z1 : ¬ (M : Int) < (en : Int) := by omega
                go_wp2
                go_end0
                exact ⟨rfl, S1 ++ (L2 ++ R2), (FINL.out _ _ hP1 hS1 (List.Perm.refl _) (by rw [List.eq_nil_of_length_eq_zero (l := L2) (by omega), List.nil_append]; exact hs4)).1, (FINL.out _ _ hP1 hS1 (List.Perm.refl _) (by rw [List.eq_nil_of_length_eq_zero (l := L2) (by omega), List.nil_append]; exact hs4)).2, hkB, hEB.cast (by simp)⟩
            · have z1 : (a : Int) < (st : Int) := by omega
              have z2 : ¬ (st : Int) < (M : Int) := by omega
              obtain ⟨S1, hP1, hS1, hEB⟩ : ∃ S1, S1.Perm (L1 ++ R1) ∧ S1.Pairwise (Lt cf) ∧ ElV enc rest g (p ++ S1 ++ (L2 ++ R2 ++ q)) WA := ⟨L1 ++ R1, List.Perm.refl _, by rw [List.eq_nil_of_length_eq_zero (l := R1) (by omega), List.append_nil]; exact hs1, hEA.cast (by simp)⟩
              obtain ⟨WB, hWB⟩ : ∃ WB, WA = WB := ⟨_, rfl⟩
              have hkB := hkA
              subst hWB
              have hS1l : S1.length = M - a := by rw [hP1.length_eq, List.length_append]; omega
              by_cases y1 : M < en
              · by_cases y2 : en < b
                · have z1 : (M : Int) < (en : Int) := by omega
                  have z2 : (en : Int) < (b : Int) := by omega
                  go_wp2_with fail
                  refine (IH M en b (p ++ S1) L2 R2 q WA (by omega) (hEB.cast (by simp)) (by rw [List.length_append, hS1l]; omega) (by omega) (by omega) hq (by omega) (by omega) hs2 hs4 hc2 (hk.trans hkB (fun _ _ h => h.elim id id))).mono ?_
                  rintro e WC ⟨rfl, S2, hP2, hS2, hk9, hEC⟩
                  have hkC := hkB.trans hk9 (fun _ _ h => h.elim id id)
                  go_wp2
                  go_end0
                  exact ⟨rfl, S1 ++ S2, (FINL.out _ _ hP1 hS1 hP2 hS2).1, (FINL.out _ _ hP1 hS1 hP2 hS2).2, hkC, hEC.cast (by simp)⟩
                · have z1 : (M : Int) < (en : Int) := by omega
                  have z2 : ¬ (en : Int) < (b : Int) := by omega
                  go_wp2
                  go_end0
                  exact ⟨rfl, S1 ++ (L2 ++ R2), (FINL.out _ _ hP1 hS1 (List.Perm.refl _) (by rw [List.eq_nil_of_length_eq_zero (l := R2) (by omega), List.append_nil]; exact hs2)).1, (FINL.out _ _ hP1 hS1 (List.Perm.refl _) (by rw [List.eq_nil_of_length_eq_zero (l := R2) (by omega), List.append_nil]; exact hs2)).2, hkB, hEB.cast (by simp)⟩
              · have z1 : ¬ (M : Int) < (en : Int) := by omega
                go_wp2
                go_end0
                exact ⟨rfl, S1 ++ (L2 ++ R2), (FINL.out _ _ hP1 hS1 (List.Perm.refl _) (by rw [List.eq_nil_of_length_eq_zero (l := L2) (by omega), List.nil_append]; exact hs4)).1, (FINL.out _ _ hP1 hS1 (List.Perm.refl _) (by rw [List.eq_nil_of_length_eq_zero (l := L2) (by omega), List.nil_append]; exact hs4)).2, hkB, hEB.cast (by simp)⟩
          · have z1 : ¬ (a : Int) < (st : Int) := by omega
            obtain ⟨S1, hP1, hS1, hEB⟩ : ∃ S1, S1.Perm (L1 ++ R1) ∧ S1.Pairwise (Lt cf) ∧ ElV enc rest g (p ++ S1 ++ (L2 ++ R2 ++ q)) WA := ⟨L1 ++ R1, List.Perm.refl _, by rw [List.eq_nil_of_length_eq_zero (l := L1) (by omega), List.nil_append]; exact hs3, hEA.cast (by simp)⟩
            obtain ⟨WB, hWB⟩ : ∃ WB, WA = WB := ⟨_, rfl⟩
            have hkB := hkA
            subst hWB
            have hS1l : S1.length = M - a := by rw [hP1.length_eq, List.length_append]; omega
            by_cases y1 : M < en
            · by_cases y2 : en < b
              · have z1 : (M : Int) < (en : Int) := by omega
                have z2 : (en : Int) < (b : Int) := by omega
                go_wp2_with fail
                refine (IH M en b (p ++ S1) L2 R2 q WA (by omega) (hEB.cast (by simp)) (by rw [List.length_append, hS1l]; omega) (by omega) (by omega) hq (by omega) (by omega) hs2 hs4 hc2 (hk.trans hkB (fun _ _ h => h.elim id id))).mono ?_
                rintro e WC ⟨rfl, S2, hP2, hS2, hk9, hEC⟩
                have hkC := hkB.trans hk9 (fun _ _ h => h.elim id id)
                go_wp2
                go_end0
                exact ⟨rfl, S1 ++ S2, (FINL.out _ _ hP1 hS1 hP2 hS2).1, (FINL.out _ _ hP1 hS1 hP2 hS2).2, hkC, hEC.cast (by simp)⟩
              · have z1 : (M : Int) < (en : Int) := by omega
                have z2 : ¬ (en : Int) < (b : Int) := by omega
                go_wp2
                go_end0
                exact ⟨rfl, S1 ++ (L2 ++ R2), (FINL.out _ _ hP1 hS1 (List.Perm.refl _) (by rw [List.eq_nil_of_length_eq_zero (l := R2) (by omega), List.append_nil]; exact hs2)).1, (FINL.out _ _ hP1 hS1 (List.Perm.refl _) (by rw [List.eq_nil_of_length_eq_zero (l := R2) (by omega), List.append_nil]; exact hs2)).2, hkB, hEB.cast (by simp)⟩
            · have z1 : ¬ (M : Int) < (en : Int) := by omega
              go_wp2
              go_end0
              exact ⟨rfl, S1 ++ (L2 ++ R2), (FINL.out _ _ hP1 hS1 (List.Perm.refl _) (by rw [List.eq_nil_of_length_eq_zero (l := L2) (by omega), List.nil_append]; exact hs4)).1, (FINL.out _ _ hP1 hS1 (List.Perm.refl _) (by rw [List.eq_nil_of_length_eq_zero (l := L2) (by omega), List.nil_append]; exact hs4)).2, hkB, hEB.cast (by simp)⟩
        · have z1 : (st : Int) < (m : Int) := by omega
          have z2 : ¬ (m : Int) < (en : Int) := by omega
          have hEA := hE1.cast (ys := p ++ (L1 ++ R1) ++ (L2 ++ R2 ++ q)) (by rw [List.eq_nil_of_length_eq_zero (l := R1) (by omega)]; simp)
          have hkA := hkr
          by_cases x1 : a < st
          · by_cases x2 : st < M
            · have z1 : (a : Int) < (st : Int) := by omega
              have z2 : (st : Int) < (M : Int) := by omega
              go_wp2_with fail
              refine (IH a st M p L1 R1 (L2 ++ R2 ++ q) wr (by omega) (hEA.cast (by simp)) hp (by omega) (by omega) (by simp only [List.length_append]; omega) (by omega) (by omega) hs1 hs3 hc1 (hk.trans hkA (fun _ _ h => h.elim id id))).mono ?_
              rintro e WB ⟨rfl, S1, hP1, hS1, hk8, hEB⟩
              have hkB := hkA.trans hk8 (fun _ _ h => h.elim id id)
              have hS1l : S1.length = M - a := by rw [hP1.length_eq, List.length_append]; omega
              by_cases y1 : M < en
              · by_cases y2 : en < b
                · have z1 : (M : Int) < (en : Int) := by omega
                  have z2 : (en : Int) < (b : Int) := by omega
                  go_wp2_with fail
                  refine (IH M en b (p ++ S1) L2 R2 q WB (by omega) (hEB.cast (by simp)) (by rw [List.length_append, hS1l]; omega) (by omega) (by omega) hq (by omega) (by omega) hs2 hs4 hc2 (hk.trans hkB (fun _ _ h => h.elim id id))).mono ?_
                  rintro e WC ⟨rfl, S2, hP2, hS2, hk9, hEC⟩
                  have hkC := hkB.trans hk9 (fun _ _ h => h.elim id id)
                  go_wp2
                  go_end0
                  exact ⟨rfl, S1 ++ S2, (FINL.out _ _ hP1 hS1 hP2 hS2).1, (FINL.out _ _ hP1 hS1 hP2 hS2).2, hkC, hEC.cast (by simp)⟩
                · have z1 : (M : Int) < (en : Int) := by omega
                  have z2 : ¬ (en : Int) < (b : Int) := by omega
                  go_wp2
                  go_end0
                  exact ⟨rfl, S1 ++ (L2 ++ R2), (FINL.out _ _ hP1 hS1 (List.Perm.refl _) (by rw [List.eq_nil_of_length_eq_zero (l := R2) (by omega), List.append_nil]; exact hs2)).1, (FINL.out _ _ hP1 hS1 (List.Perm.refl _) (by rw [List.eq_nil_of_length_eq_zero (l := R2) (by omega), List.append_nil]; exact hs2)).2, hkB, hEB.cast (by simp)⟩
              · have z1 : ¬ (M : Int) < (en : Int) := by omega
                go_wp2
                go_end0
                exact ⟨rfl, S1 ++ (L2 ++ R2), (FINL.out _ _ hP1 hS1 (List.Perm.refl _) (by rw [List.eq_nil_of_length_eq_zero (l := L2) (by omega), List.nil_append]; exact hs4)).1, (FINL.out _ _ hP1 hS1 (List.Perm.refl _) (by rw [List.eq_nil_of_length_eq_zero (l := L2) (by omega), List.nil_append]; exact hs4)).2, hkB, hEB.cast (by simp)⟩
            · have z1 : (a : Int) < (st : Int) := by omega
              have z2 : ¬ (st : Int) < (M : Int) := by omega
              obtain ⟨S1, hP1, hS1, hEB⟩ : ∃ S1, S1.Perm (L1 ++ R1) ∧ S1.Pairwise (Lt cf) ∧ ElV enc rest g (p ++ S1 ++ (L2 ++ R2 ++ q)) wr := ⟨L1 ++ R1, List.Perm.refl _, by rw [List.eq_nil_of_length_eq_zero (l := R1) (by omega), List.append_nil]; exact hs1, hEA.cast (by simp)⟩
              obtain ⟨WB, hWB⟩ : ∃ WB, wr = WB := ⟨_, rfl⟩
              have hkB := hkA
              subst hWB
              have hS1l : S1.length = M - a := by rw [hP1.length_eq, List.length_append]; omega
              by_cases y1 : M < en
              · by_cases y2 : en < b
                · have z1 : (M : Int) < (en : Int) := by omega
                  have z2 : (en : Int) < (b : Int) := by omega
                  go_wp2_with fail
                  refine (IH M en b (p ++ S1) L2 R2 q wr (by omega) (hEB.cast (by simp)) (by rw [List.length_append, hS1l]; omega) (by omega) (by omega) hq (by omega) (by omega) hs2 hs4 hc2 (hk.trans hkB (fun _ _ h => h.elim id id))).mono ?_
                  rintro e WC ⟨rfl, S2, hP2, hS2, hk9, hEC⟩
                  have hkC := hkB.trans hk9 (fun _ _ h => h.elim id id)
                  go_wp2
                  go_end0
                  exact ⟨rfl, S1 ++ S2, (FINL.out _ _ hP1 hS1 hP2 hS2).1, (FINL.out _ _ hP1 hS1 hP2 hS2).2, hkC, hEC.cast (by simp)⟩
                · have z1 : (M : Int) < (en : Int) := by omega
                  have z2 : ¬ (en : Int) < (b : Int) := by omega
                  go_wp2
                  go_end0
                  exact ⟨rfl, S1 ++ (L2 ++ R2), (FINL.out _ _ hP1 hS1 (List.Perm.refl _) (by rw [List.eq_nil_of_length_eq_zero (l := R2) (by omega), List.append_nil]; exact hs2)).1, (FINL.out _ _ hP1 hS1 (List.Perm.refl _) (by rw [List.eq_nil_of_length_eq_zero (l := R2) (by omega), List.append_nil]; exact hs2)).2, hkB, hEB.cast (by simp)⟩
              · have z1 : ¬ (M : Int) < (en : Int) := by omega
                go_wp2
                go_end0
                exact ⟨rfl, S1 ++ (L2 ++ R2), (FINL.out _ _ hP1 hS1 (List.Perm.refl _) (by rw [List.eq_nil_of_length_eq_zero (l := L2) (by omega), List.nil_append]; exact hs4)).1, (FINL.out _ _ hP1 hS1 (List.Perm.refl _) (by rw [List.eq_nil_of_length_eq_zero (l := L2) (by omega), List.nil_append]; exact hs4)).2, hkB, hEB.cast (by simp)⟩
          · have z1 : ¬ (a : Int) < (st : Int) := by omega
            obtain ⟨S1, hP1, hS1, hEB⟩ : ∃ S1, S1.Perm (L1 ++ R1) ∧ S1.Pairwise (Lt cf) ∧ ElV enc rest g (p ++ S1 ++ (L2 ++ R2 ++ q)) wr := ⟨L1 ++ R1, List.Perm.refl _, by rw [List.eq_nil_of_length_eq_zero (l := L1) (by omega), List.nil_append]; exact hs3, hEA.cast (by simp)⟩
            obtain ⟨WB, hWB⟩ : ∃ WB, wr = WB := ⟨_, rfl⟩
            have hkB := hkA
            subst hWB
            have hS1l : S1.length = M - a := by rw [hP1.length_eq, List.length_append]; omega
            by_cases y1 : M < en
            · by_cases y2 : en < b
              · have z1 : (M : Int) < (en : Int) := by omega
                have z2 : (en : Int) < (b : Int) := by omega
                go_wp2_with fail
                refine (IH M en b (p ++ S1) L2 R2 q wr (by omega) (hEB.cast (by simp)) (by rw [List.length_append, hS1l]; omega) (by omega) (by omega) hq (by omega) (by omega) hs2 hs4 hc2 (hk.trans hkB (fun _ _ h => h.elim id id))).mono ?_
                rintro e WC ⟨rfl, S2, hP2, hS2, hk9, hEC⟩
                have hkC := hkB.trans hk9 (fun _ _ h => h.elim id id)
                go_wp2
                go_end0
                exact ⟨rfl, S1 ++ S2, (FINL.out _ _ hP1 hS1 hP2 hS2).1, (FINL.out _ _ hP1 hS1 hP2 hS2).2, hkC, hEC.cast (by simp)⟩
              · have z1 : (M : Int) < (en : Int) := by omega
                have z2 : ¬ (en : Int) < (b : Int) := by omega
                go_wp2
                go_end0
                exact ⟨rfl, S1 ++ (L2 ++ R2), (FINL.out _ _ hP1 hS1 (List.Perm.refl _) (by rw [List.eq_nil_of_length_eq_zero (l := R2) (by omega), List.append_nil]; exact hs2)).1, (FINL.out _ _ hP1 hS1 (List.Perm.refl _) (by rw [List.eq_nil_of_length_eq_zero (l := R2) (by omega), List.append_nil]; exact hs2)).2, hkB, hEB.cast (by simp)⟩
            · have z1 : ¬ (M : Int) < (en : Int) := by omega
              go_wp2
              go_end0
              exact ⟨rfl, S1 ++ (L2 ++ R2), (FINL.out _ _ hP1 hS1 (List.Perm.refl _) (by rw [List.eq_nil_of_length_eq_zero (l := L2) (by omega), List.nil_append]; exact hs4)).1, (FINL.out _ _ hP1 hS1 (List.Perm.refl _) (by rw [List.eq_nil_of_length_eq_zero (l := L2) (by omega), List.nil_append]; exact hs4)).2, hkB, hEB.cast (by simp)⟩
      · have z1 : ¬ (st : Int) < (m : Int) := by omega
        have hEA := hE1.cast (ys := p ++ (L1 ++ R1) ++ (L2 ++ R2 ++ q)) (by rw [List.eq_nil_of_length_eq_zero (l := L2) (by omega)]; simp)
        have hkA := hkr
        by_cases x1 : a < st
        · by_cases x2 : st < M
          · have z1 : (a : Int) < (st : Int) := by omega
            have z2 : (st : Int) < (M : Int) := by omega
            go_wp2_with fail
            refine (IH a st M p L1 R1 (L2 ++ R2 ++ q) wr (by omega) (hEA.cast (by simp)) hp (by omega) (by omega) (by simp only [List.length_append]; omega) (by omega) (by omega) hs1 hs3 hc1 (hk.trans hkA (fun _ _ h => h.elim id id))).mono ?_
            rintro e WB ⟨rfl, S1, hP1, hS1, hk8, hEB⟩
            have hkB := hkA.trans hk8 (fun _ _ h => h.elim id id)
            have hS1l : S1.length = M - a := by rw [hP1.length_eq, List.length_append]; omega
            by_cases y1 : M < en
            · by_cases y2 : en < b
              · have z1 : (M : Int) < (en : Int) := by omega
                have z2 : (en : Int) < (b : Int) := by omega
                go_wp2_with fail
                refine (IH M en b (p ++ S1) L2 R2 q WB (by omega) (hEB.cast (by simp)) (by rw [List.length_append, hS1l]; omega) (by omega) (by omega) hq (by omega) (by omega) hs2 hs4 hc2 (hk.trans hkB (fun _ _ h => h.elim id id))).mono ?_
                rintro e WC ⟨rfl, S2, hP2, hS2, hk9, hEC⟩
                have hkC := hkB.trans hk9 (fun _ _ h => h.elim id id)
                go_wp2
                go_end0
                exact ⟨rfl, S1 ++ S2, (FINL.out _ _ hP1 hS1 hP2 hS2).1, (FINL.out _ _ hP1 hS1 hP2 hS2).2, hkC, hEC.cast (by simp)⟩
              · have z1 : (M : Int) < (en : Int) := by omega
                have z2 : ¬ (en : Int) < (b : Int) := by omega
                go_wp2
                go_end0
                exact ⟨rfl, S1 ++ (L2 ++ R2), (FINL.out _ _ hP1 hS1 (List.Perm.refl _) (by rw [List.eq_nil_of_length_eq_zero (l := R2) (by omega), List.append_nil]; exact hs2)).1, (FINL.out _ _ hP1 hS1 (List.Perm.refl _) (by rw [List.eq_nil_of_length_eq_zero (l := R2) (by omega), List.append_nil]; exact hs2)).2, hkB, hEB.cast (by simp)⟩
            · have z1 : ¬ (M : Int) < (en : Int) := by omega
              go_wp2
              go_end0
              exact ⟨rfl, S1 ++ (L2 ++ R2), (FINL.out _ _ hP1 hS1 (List.Perm.refl _) (by rw [List.eq_nil_of_length_eq_zero (l := L2) (by omega), List.nil_append]; exact hs4)).1, (FINL.out _ _ hP1 hS1 (List.Perm.refl _) (by rw [List.eq_nil_of_length_eq_zero (l := L2) (by omega), List.nil_append]; exact hs4)).2, hkB, hEB.cast (by simp)⟩
          · have z1 : (a : Int) < (st : Int) := by omega
            have z2 : ¬ (st : Int) < (M : Int) := by omega
            obtain ⟨S1, hP1, hS1, hEB⟩ : ∃ S1, S1.Perm (L1 ++ R1) ∧ S1.Pairwise (Lt cf) ∧ ElV enc rest g (p ++ S1 ++ (L2 ++ R2 ++ q)) wr := ⟨L1 ++ R1, List.Perm.refl _, by rw [List.eq_nil_of_length_eq_zero (l := R1) (by omega), List.append_nil]; exact hs1, hEA.cast (by simp)⟩
            obtain ⟨WB, hWB⟩ : ∃ WB, wr = WB := ⟨_, rfl⟩
            have hkB := hkA
            subst hWB
            have hS1l : S1.length = M - a := by rw [hP1.length_eq, List.length_append]; omega
            by_cases y1 : M < en
            · by_cases y2 : en < b
              · have z1 : (M : Int) < (en : Int) := by omega
                have z2 : (en : Int) < (b : Int) := by omega
                go_wp2_with fail
                refine (IH M en b (p ++ S1) L2 R2 q wr (by omega) (hEB.cast (by simp)) (by rw [List.length_append, hS1l]; omega) (by omega) (by omega) hq (by omega) (by omega) hs2 hs4 hc2 (hk.trans hkB (fun _ _ h => h.elim id id))).mono ?_
                rintro e WC ⟨rfl, S2, hP2, hS2, hk9, hEC⟩
                have hkC := hkB.trans hk9 (fun _ _ h => h.elim id id)
                go_wp2
                go_end0
                exact ⟨rfl, S1 ++ S2, (FINL.out _ _ hP1 hS1 hP2 hS2).1, (FINL.out _ _ hP1 hS1 hP2 hS2).2, hkC, hEC.cast (by simp)⟩
              · have z1 : (M : Int) < (en : Int) := by omega
                have z2 : ¬ (en : Int) < (b : Int) := by omega
                go_wp2
                go_end0
                exact ⟨rfl, S1 ++ (L2 ++ R2), (FINL.out _ _ hP1 hS1 (List.Perm.refl _) (by rw [List.eq_nil_of_length_eq_zero (l := R2) (by omega), List.append_nil]; exact hs2)).1, (FINL.out _ _ hP1 hS1 (List.Perm.refl _) (by rw [List.eq_nil_of_length_eq_zero (l := R2) (by omega), List.append_nil]; exact hs2)).2, hkB, hEB.cast (by simp)⟩
            · have z1 : ¬ (M : Int) < (en : Int) := by omega
              go_wp2
              go_end0
              exact ⟨rfl, S1 ++ (L2 ++ R2), (FINL.out _ _ hP1 hS1 (List.Perm.refl _) (by rw [List.eq_nil_of_length_eq_zero (l := L2) (by omega), List.nil_append]; exact hs4)).1, (FINL.out _ _ hP1 hS1 (List.Perm.refl _) (by rw [List.eq_nil_of_length_eq_zero (l := L2) (by omega), List.nil_append]; exact hs4)).2, hkB, hEB.cast (by simp)⟩
        · have z1 : ¬ (a : Int) < (st : Int) := by omega
          obtain ⟨S1, hP1, hS1, hEB⟩ : ∃ S1, S1.Perm (L1 ++ R1) ∧ S1.Pairwise (Lt cf) ∧ ElV enc rest g (p ++ S1 ++ (L2 ++ R2 ++ q)) wr := ⟨L1 ++ R1, List.Perm.refl _, by rw [List.eq_nil_of_length_eq_zero (l := L1) (by omega), List.nil_append]; exact hs3, hEA.cast (by simp)⟩
          obtain ⟨WB, hWB⟩ : ∃ WB, wr = WB := ⟨_, rfl⟩
          have hkB := hkA
          subst hWB
          have hS1l : S1.length = M - a := by rw [hP1.length_eq, List.length_append]; omega
          by_cases y1 : M < en
          · by_cases y2 : en < b
            · have z1 : (M : Int) < (en : Int) := by omega
              have z2 : (en : Int) < (b : Int) := by omega
              go_wp2_with fail
              refine (IH M en b (p ++ S1) L2 R2 q wr (by omega) (hEB.cast (by simp)) (by rw [List.length_append, hS1l]; omega) (by omega) (by omega) hq (by omega) (by omega) hs2 hs4 hc2 (hk.trans hkB (fun _ _ h => h.elim id id))).mono ?_
              rintro e WC ⟨rfl, S2, hP2, hS2, hk9, hEC⟩
              have hkC := hkB.trans hk9 (fun _ _ h => h.elim id id)
              go_wp2
              go_end0
              exact ⟨rfl, S1 ++ S2, (FINL.out _ _ hP1 hS1 hP2 hS2).1, (FINL.out _ _ hP1 hS1 hP2 hS2).2, hkC, hEC.cast (by simp)⟩
            · have z1 : (M : Int) < (en : Int) := by omega
              have z2 : ¬ (en : Int) < (b : Int) := by omega
              go_wp2
              go_end0
              exact ⟨rfl, S1 ++ (L2 ++ R2), (FINL.out _ _ hP1 hS1 (List.Perm.refl _) (by rw [List.eq_nil_of_length_eq_zero (l := R2) (by omega), List.append_nil]; exact hs2)).1, (FINL.out _ _ hP1 hS1 (List.Perm.refl _) (by rw [List.eq_nil_of_length_eq_zero (l := R2) (by omega), List.append_nil]; exact hs2)).2, hkB, hEB.cast (by simp)⟩
          · have z1 : ¬ (M : Int) < (en : Int) := by omega
            go_wp2
            go_end0
            exact ⟨rfl, S1 ++ (L2 ++ R2), (FINL.out _ _ hP1 hS1 (List.Perm.refl _) (by rw [List.eq_nil_of_length_eq_zero (l := L2) (by omega), List.nil_append]; exact hs4)).1, (FINL.out _ _ hP1 hS1 (List.Perm.refl _) (by rw [List.eq_nil_of_length_eq_zero (l := L2) (by omega), List.nil_append]; exact hs4)).2, hkB, hEB.cast (by simp)⟩
theorem symV_any (g n c : Nat) (cf : Nat → Nat → Int) (gc : Nat) (lb : Array Value) (hcf : CmpOk cf) (enc : Nat → List Value) (rest : List Value) (w0 : World) (hn2 : n ≤ 5864062014805)
    (hcmp : CmpAtV cf enc gc lb g w0) (eg : ∀ args w, (callFunc gc args).run Try.prog w = .ok (.enter gc args) w) (hform : ∀ x, ∃ e m A l c d, enc x = [Value.int .u64 e, Value.int .u32 m, Value.slice A l c, Value.int .u64 d]) : ∀ N, SymAtV g n c cf gc lb enc rest w0 N := by
  intro N
  induction N with
  | zero => intro a m b p L R q W hN hx hp hL hR hq hL0; omega
  | succ N ih =>
    intro a m b p L R q W hN hx hp hL hR hq hL0 hR0 hLs hRs hLR hk
    by_cases h1 : L.length = 1
    · obtain ⟨x, rfl⟩ : ∃ x, L = [x] := List.length_eq_one_iff.1 h1
      exact symV_one g n c cf gc lb hcf enc rest w0 hn2 hcmp eg hform a m b p R q x W hx hp (by simpa using hL) hR hq hRs (fun y hy => hLR x (by simp) y hy) hk
    · by_cases h2 : R.length = 1
      · obtain ⟨x, rfl⟩ : ∃ x, R = [x] := List.length_eq_one_iff.1 h2
        exact symV_last g n c cf gc lb hcf enc rest w0 hn2 hcmp eg hform a m b p L q x W hx hp hL (by simpa using hR) hq (by omega) hLs (fun y hy => hLR y hy x (by simp)) hk
      · by_cases hside : (a + b) / 2 < m
        · exact symV_gt g n c cf gc lb hcf enc rest w0 hn2 hcmp eg hform N ih a m b p L R q W hN hx hp hL hR hq (by omega) (by omega) hLs hRs hLR hk hside
        · exact symV_le g n c cf gc lb hcf enc rest w0 hn2 hcmp eg hform N ih a m b p L R q W hN hx hp hL hR hq (by omega) (by omega) hLs hRs hLR hk hside
end Go.Proofs.Ytghblnldokpceaa.QV
/- slices.stableCmpFunc, slices.SortStableFunc over versions, walked. -/
namespace Go.Proofs.Ytghblnldokpceaa.QV
open Go.RowKit Go.Proofs.YtghblnldokpceaaW.PrintWords Go.Proofs.Ytghblnldokpceaa.SeqW Go.Proofs.Ytghblnldokpceaa.SeqX Go.Shelf Go.Proofs.Ytghblnldokpceaa.Op Go.Proofs.Ytghblnldokpceaa.Stab
set_option linter.unusedVariables false
set_option linter.unusedSimpArgs false

set_option maxRecDepth 100000 in
set_option maxHeartbeats 4000000 in
theorem stableV_any (g n c : Nat) (cf : Nat → Nat → Int) (gc : Nat) (lb : Array Value) (hcf : CmpOk cf) (enc : Nat → List Value) (rest : List Value) (hn2 : n ≤ 5864062014805)
    (eg : ∀ args w, (callFunc gc args).run Try.prog w = .ok (.enter gc args) w) (hform : ∀ x, ∃ e m A l c d, enc x = [Value.int .u64 e, Value.int .u32 m, Value.slice A l c, Value.int .u64 d])
    (xs : List Nat) (W : World) (hx : ElV enc rest g xs W) (hn : xs.length = n) (hasc : xs.Pairwise (· < ·)) (hcmp : CmpAtV cf enc gc lb g W) :
    Calls Try.prog 71 #[.slice (some ⟨g, 0, none⟩) n c, .int .i64 n, .func (.func gc) #[] lb] W fun e W' => e = .returned (.tuple #[]) ∧
      ∃ S, S.Perm xs ∧ S.Pairwise (Lt cf) ∧ Seq.Kpt (fun i => i = g) W W' ∧ ElV enc rest g S W' := by
  have SYM : ∀ N, SymAtV g n c cf gc lb enc rest W N := symV_any g n c cf gc lb hcf enc rest W hn2 hcmp eg hform
  go_enter Try.func71, Try.ntmps71
  go_wp2_with fail
  go_loopw [7, 8] (fun av bv wr => ∃ (a b : Nat) (Bs : List (List Nat)), av = .int .i64 (a : Int) ∧ bv = .int .i64 (b : Int) ∧ a + 20 = b ∧ a ≤ n ∧ Bs.flatten.length = a ∧ (∀ B ∈ Bs, B.length = 20 ∧ B.Pairwise (Lt cf)) ∧ Bs.Pairwise (fun A B => ∀ x ∈ A, ∀ y ∈ B, x < y) ∧ Bs.flatten.Perm (xs.take a) ∧ ElV enc rest g (Bs.flatten ++ xs.drop a) wr ∧ Seq.Kpt (fun i => i = g) W wr) (fun av _ _ => n - (intOf av).toNat)
  case atStart => exact ⟨0, 20, [], rfl, rfl, rfl, Nat.zero_le _, rfl, by simp, by simp, by simp, by simpa using hx, Seq.Kpt.refl _ _⟩
  case round =>
    obtain ⟨a, b, Bs, rfl, rfl, hab, han, hfl, hea, htg, hpm, hE, hk⟩ := hrel
    by_cases hlt : b ≤ n
    · have hlz : (b : Int) ≤ (n : Int) := by omega
      have hcut := pw_cut hasc a
      obtain ⟨s, hs⟩ : ∃ s, (xs.drop a).take 20 = s := ⟨_, rfl⟩
      have hsl : s.length = 20 := by rw [← hs, List.length_take, List.length_drop]; omega
      have hsd : xs.drop a = s ++ xs.drop b := by rw [← hs, ← hab, ← List.drop_drop, List.take_append_drop]
      have hst : xs.take b = xs.take a ++ s := by rw [← hs, ← hab, List.take_add]
      have hsa : s.Pairwise (· < ·) := by rw [← hs]; exact pw_take (pw_drop hasc a) 20
      have hE1 := hE.cast (ys := Bs.flatten ++ s ++ xs.drop b) (by rw [hsd]; simp)
      have hdl : (xs.drop b).length = n - b := by rw [List.length_drop, hn]
      obtain ⟨b2, hb2⟩ : ∃ b2 : Nat, b + 20 = b2 := ⟨_, rfl⟩
      have w1 : (b : Int) + 20 = (b2 : Int) := by omega
      have w2 : IntKind.i64.wrap (b2 : Int) = (b2 : Int) := wrapN (by omega)
      go_wp2_with fail
      refine (insV_any n c a b g cf gc lb hcf enc rest Bs.flatten s (xs.drop b) W wr hE1 hfl (by omega) (by rw [List.length_append, List.length_append]; omega) hn2 hsa hk hcmp eg hform).mono ?_
      rintro e w5 ⟨rfl, s', hp', hs', hk5, hE5⟩
      go_wp2
      go_roundw
      case rel =>
        have hmem : ∀ y ∈ s', y ∈ xs.drop a := fun y hy => by rw [hsd]; exact List.mem_append.2 (.inl (hp'.mem_iff.1 hy))
        refine ⟨b, b2, Bs ++ [s'], rfl, rfl, hb2, hlt, ?_, ?_, ?_, ?_, hE5.cast (by simp), hk.trans hk5 (fun _ _ h => h.elim id id)⟩
        · rw [List.flatten_append, List.length_append, hfl]; simp [hp'.length_eq]; omega
        · intro B hB
          rcases List.mem_append.1 hB with hB | hB
          · exact hea B hB
          · rw [List.mem_singleton.1 hB]; exact ⟨by rw [hp'.length_eq]; exact hsl, hs'⟩
        · rw [List.pairwise_append]
          refine ⟨htg, by simp, fun A hA B hB x hx y hy => ?_⟩
          rw [List.mem_singleton.1 hB] at hy
          exact hcut x (hpm.mem_iff.1 (List.mem_flatten.2 ⟨A, hA, hx⟩)) y (hmem y hy)
        · rw [hst, List.flatten_append]
          simpa using hpm.append hp'
      case measure => simp [intOf]; omega
    · have hlz : ¬ (b : Int) ≤ (n : Int) := by omega
      have hcut := pw_cut hasc a
      have hdl : (xs.drop a).length = n - a := by rw [List.length_drop, hn]
      go_wp2_with fail
      refine (insV_any n c a n g cf gc lb hcf enc rest Bs.flatten (xs.drop a) [] W wr (hE.cast (by simp)) hfl (by omega) (by rw [List.append_nil, List.length_append]; omega) hn2 (pw_drop hasc a) hk hcmp eg hform).mono ?_
      rintro e w5 ⟨rfl, T, hpT, hsT, hk5, hE5⟩
      have hR0 : Runs cf xs 20 Bs T := by
        refine ⟨hea, htg, fun x hx y hy => hcut x (hpm.mem_iff.1 hx) y (hpT.mem_iff.1 hy), hsT, by rw [hpT.length_eq]; omega, ?_⟩
        have := hpm.append hpT
        rwa [List.take_append_drop] at this
      have hE6 := hE5.cast (ys := Bs.flatten ++ T) (by simp)
      have hk6 := hk.trans hk5 (fun _ _ h => h.elim id id)
      clear hE5 hk5 hE hk hpT hsT hpm hea htg hcut
      go_wp2_with fail
      clear hdl hfl hlz
      go_loopw [6] (fun sv wr => ∃ (bs : Nat) (Bs : List (List Nat)) (T : List Nat), sv = .int .i64 (bs : Int) ∧ 20 ≤ bs ∧ bs ≤ 2 * n + 40 ∧ Runs cf xs bs Bs T ∧ ElV enc rest g (Bs.flatten ++ T) wr ∧ Seq.Kpt (fun i => i = g) W wr) (fun sv _ => n - (intOf sv).toNat)
      case atStart => exact ⟨20, Bs, T, rfl, by omega, by omega, hR0, hE6, hk6⟩
      case round =>
        clear hR0 hE6 hk6
        obtain ⟨bs, Bs, T, rfl, hbs1, hbs2, hRn, hEr, hkr⟩ := hrel
        by_cases hlt2 : bs < n
        · have hlz2 : (bs : Int) < (n : Int) := by omega
          obtain ⟨b2, hb2⟩ : ∃ b2 : Nat, 2 * bs = b2 := ⟨_, rfl⟩
          have w1 : (2 : Int) * (bs : Int) = (b2 : Int) := by omega
          have w1' : (bs : Int) * 2 = (b2 : Int) := by omega
          have w2 : IntKind.i64.wrap (b2 : Int) = (b2 : Int) := wrapN (by omega)
          have w3 : IntKind.i64.wrap 2 = 2 := by rfl
          have hM0 := Mid.start hRn
          go_wp2_with fail
          go_loopw [7, 8] (fun av bv wq => ∃ (a b : Nat) (D B' : List (List Nat)), av = .int .i64 (a : Int) ∧ bv = .int .i64 (b : Int) ∧ a + b2 = b ∧ D.flatten.length = a ∧ Mid cf xs bs D B' T ∧ ElV enc rest g (D.flatten ++ B'.flatten ++ T) wq ∧ Seq.Kpt (fun i => i = g) W wq) (fun av _ _ => n - (intOf av).toNat)
          case atStart => exact ⟨0, b2, [], Bs, rfl, rfl, by omega, rfl, hM0, hEr.cast (by simp), hkr⟩
          case round =>
            clear hM0 hRn hEr hkr
            obtain ⟨a, b, D, B', rfl, rfl, hab, hDl, hMd, hEq, hkq⟩ := hrel
            obtain ⟨hl1, hl2, hl3⟩ := hMd.lens
            have hTl := hMd.len
            rw [hDl, hn] at hl3
            obtain ⟨am, ham⟩ : ∃ am : Nat, a + bs = am := ⟨_, rfl⟩
            have v1 : (a : Int) + (bs : Int) = (am : Int) := by omega
            have v2 : IntKind.i64.wrap (am : Int) = (am : Int) := wrapN (by omega)
            by_cases hbn : b ≤ n
            · have hbz : (b : Int) ≤ (n : Int) := by omega
              have hB2l : ¬ B'.length < 2 := by
                intro hc
                rcases (by omega : B'.length = 0 ∨ B'.length = 1) with h | h
                · rw [h] at hl2; omega
                · rw [h] at hl2; omega
              obtain ⟨B1, B2, B'', rfl⟩ : ∃ B1 B2 B'', B' = B1 :: B2 :: B'' := by
                match B', hB2l with
                | [], h => simp at h
                | [B], h => simp at h
                | B1 :: B2 :: B'', _ => exact ⟨B1, B2, B'', rfl⟩
              have hB1 := hMd.each B1 (by simp)
              have hB2 := hMd.each B2 (by simp)
              have htg := List.pairwise_append.1 hMd.tags
              have ht12 := (List.pairwise_cons.1 htg.2.1).1 B2 (by simp)
              obtain ⟨b3, hb3⟩ : ∃ b3 : Nat, b + b2 = b3 := ⟨_, rfl⟩
              have v3 : (b : Int) + (b2 : Int) = (b3 : Int) := by omega
              have v4 : IntKind.i64.wrap (b3 : Int) = (b3 : Int) := wrapN (by omega)
              obtain ⟨Q, hQ⟩ : ∃ Q, B''.flatten ++ T = Q := ⟨_, rfl⟩
              have hQl : b + Q.length = n := by
                rw [← hQ, List.length_append]
                rw [List.flatten_cons, List.flatten_cons, List.length_append, List.length_append, hB1.1, hB2.1] at hl3
                omega
              have hE1 := hEq.cast (ys := D.flatten ++ B1 ++ B2 ++ Q) (by rw [← hQ]; simp)
              clear hl1 hl2 hl3
              go_wp2_with fail
              refine (SYM (b - a) a am b D.flatten B1 B2 Q wr (Nat.le_refl _) hE1 hDl (by omega) (by omega) hQl (by omega) (by omega) hB1.2 hB2.2 ht12 hkq).mono ?_
              rintro e w6 ⟨rfl, S, hpS, hsS, hk7, hE7⟩
              have hM2 := hMd.step hpS hsS
              go_wp2
              go_roundw
              case rel => exact ⟨b, b3, D ++ [S], B'', rfl, rfl, hb3, by rw [List.flatten_append, List.length_append, hDl]; simp [hpS.length_eq]; omega, hM2, hE7.cast (by rw [← hQ]; simp), hkq.trans hk7 (fun _ _ h => h.elim id id)⟩
              case measure => simp [intOf]; omega
            · have hbz : ¬ (b : Int) ≤ (n : Int) := by omega
              by_cases hmn : am < n
              · have hmz : (am : Int) < (n : Int) := by omega
                have hB1l : B'.length = 1 := by
                  rcases (show B'.length = 0 ∨ B'.length = 1 ∨ ∃ k, B'.length = k + 2 from by
                    rcases h : B'.length with _ | _ | k
                    · exact .inl rfl
                    · exact .inr (.inl rfl)
                    · exact .inr (.inr ⟨k, rfl⟩)) with h | h | ⟨k, h⟩
                  · rw [h] at hl2; omega
                  · exact h
                  · rw [h, Nat.mul_add] at hl2; omega
                obtain ⟨B, rfl⟩ : ∃ B, B' = [B] := List.length_eq_one_iff.1 hB1l
                have hB1 := hMd.each B (by simp)
                have hl4 : a + bs + T.length = n := by rw [← hl3]; simp [hB1.1]
                have htg : ∀ x ∈ B, ∀ y ∈ T, x < y := fun x hx y hy => hMd.tag x (by simp [hx]) y hy
                have hE1 := hEq.cast (ys := D.flatten ++ B ++ T ++ []) (by simp)
                have hlT := hMd.last
                clear hl1 hl2 hl3
                go_wp2_with fail
                refine (SYM (n - a) a am n D.flatten B T [] wr (Nat.le_refl _) hE1 hDl (by omega) (by omega) (by simp) (by omega) (by omega) hB1.2 hlT htg hkq).mono ?_
                rintro e w6 ⟨rfl, S, hpS, hsS, hk7, hE7⟩
                have hM2 := hMd.ends (S := S) (hpS.trans (by simp)) hsS (by rw [hpS.length_eq, List.length_append]; omega)
                go_wp2
                go_roundw
                case rel => exact ⟨b2, D, S, rfl, by omega, by omega, by rw [← hb2]; exact hM2, hE7.cast (by simp), hkq.trans hk7 (fun _ _ h => h.elim id id)⟩
                case measure => simp [intOf]; omega
              · have hmz : ¬ (am : Int) < (n : Int) := by omega
                have hsS : (B'.flatten ++ T).Pairwise (Lt cf) := by
                  rcases (show B'.length = 0 ∨ B'.length = 1 ∨ ∃ k, B'.length = k + 2 from by
                    rcases h : B'.length with _ | _ | k
                    · exact .inl rfl
                    · exact .inr (.inl rfl)
                    · exact .inr (.inr ⟨k, rfl⟩)) with h | h | ⟨k, h⟩
                  · rw [List.eq_nil_of_length_eq_zero h]; simpa using hMd.last
                  · have hT0 : T = [] := List.eq_nil_of_length_eq_zero (by rw [h] at hl2; omega)
                    obtain ⟨B, rfl⟩ : ∃ B, B' = [B] := List.length_eq_one_iff.1 h
                    rw [hT0]
                    simpa using (hMd.each B (by simp)).2
                  · rw [h, Nat.mul_add] at hl2; omega
                have hM2 := hMd.ends (S := B'.flatten ++ T) (List.Perm.refl _) hsS (by rw [List.length_append]; omega)
                clear hl1 hl2 hl3 hsS
                go_wp2
                go_roundw
                case rel => exact ⟨b2, D, B'.flatten ++ T, rfl, by omega, by omega, by rw [← hb2]; exact hM2, hEq.cast (by simp), hkq⟩
                case measure => simp [intOf]; omega
        · have hlz2 : ¬ (bs : Int) < (n : Int) := by omega
          go_wp2
          go_end0
          exact ⟨rfl, _, hRn.perm, hRn.done (by omega) (by omega), hkr, hEr⟩

theorem sortStableV_any (g n c : Nat) (cf : Nat → Nat → Int) (gc : Nat) (lb : Array Value) (hcf : CmpOk cf) (enc : Nat → List Value) (rest : List Value) (hn2 : n ≤ 5864062014805)
    (eg : ∀ args w, (callFunc gc args).run Try.prog w = .ok (.enter gc args) w) (hform : ∀ x, ∃ e m A l c d, enc x = [Value.int .u64 e, Value.int .u32 m, Value.slice A l c, Value.int .u64 d])
    (xs : List Nat) (W : World) (hx : ElV enc rest g xs W) (hn : xs.length = n) (hasc : xs.Pairwise (· < ·)) (hcmp : CmpAtV cf enc gc lb g W) :
    Calls Try.prog 55 #[.slice (some ⟨g, 0, none⟩) n c, .func (.func gc) #[] lb] W fun e W' => e = .returned (.tuple #[]) ∧
      ∃ S, S.Perm xs ∧ S.Pairwise (Lt cf) ∧ Seq.Kpt (fun i => i = g) W W' ∧ ElV enc rest g S W' := by
  go_enter Try.func55, Try.ntmps55
  go_wp2_with fail
  refine (stableV_any g n c cf gc lb hcf enc rest hn2 eg hform xs W hx hn hasc hcmp).mono ?_
  rintro e w5 ⟨rfl, h⟩
  go_wp2
  go_end0
  exact ⟨rfl, h⟩
end Go.Proofs.Ytghblnldokpceaa.QV
/- exec.Rejoin's comparisons; slices.BinarySearchFunc over versions. -/
namespace Go.Proofs.Ytghblnldokpceaa.QV
open Go.RowKit Go.Proofs.YtghblnldokpceaaW.PrintWords Go.Proofs.Ytghblnldokpceaa.SeqW Go.Proofs.Ytghblnldokpceaa.SeqX Go.Shelf Go.Proofs.Ytghblnldokpceaa.Op Go.Proofs.Ytghblnldokpceaa.Stab
set_option linter.unusedVariables false
set_option linter.unusedSimpArgs false
abbrev kVer : Kd Ver := k85
abbrev tVer : Nat := 85
set_option maxHeartbeats 1000000 in
theorem cmpRe_any (x y : Ver) (vx vy : Value) (hx : ∃ A c, vx = .slice A x.f1.length c) (hy : ∃ A c, vy = .slice A y.f1.length c) (w : World) :
    Calls Try.prog 56 #[.agg #[.int .u64 x.f0.f0, .int .u32 x.f0.f1, vx, .int .u64 x.f2], .agg #[.int .u64 y.f0.f0, .int .u32 y.f0.f1, vy, .int .u64 y.f2]] w fun e w' => e = .returned (.int .i64 (ordI x.f0 y.f0)) ∧ Below w.heap.size w w' := by
  obtain ⟨A, c, rfl⟩ := hx
  obtain ⟨B, d, rfl⟩ := hy
  have ho := order_f x.f0 y.f0
  generalize ordI x.f0 y.f0 = n at ho ⊢
  go_enter Try.func56, Try.ntmps56
  go_wp2_with fail
  refine (exec_order.calls 3 _ _ _ _ _ _ ho).mono ?_
  rintro e w5 ⟨rfl, hb⟩
  go_wp2
  go_ret
  exact ⟨rfl, (below_alloc (below_alloc (Below.refl _ _) _) _).trans (hb.mono (by simp; omega))⟩
set_option maxHeartbeats 1000000 in
theorem cmpRe2_any (x : Ver) (v : Id3) (vx : Value) (hx : ∃ A c, vx = .slice A x.f1.length c) (w : World) :
    Calls Try.prog 59 #[.agg #[.int .u64 x.f0.f0, .int .u32 x.f0.f1, vx, .int .u64 x.f2], .agg #[.int .u64 v.f0, .int .u32 v.f1]] w fun e w' => e = .returned (.int .i64 (ordI x.f0 v)) ∧ Below w.heap.size w w' := by
  obtain ⟨A, c, rfl⟩ := hx
  have ho := order_f x.f0 v
  generalize ordI x.f0 v = n at ho ⊢
  go_enter Try.func59, Try.ntmps59
  go_wp2_with fail
  refine (exec_order.calls 3 _ _ _ _ _ _ ho).mono ?_
  rintro e w5 ⟨rfl, hb⟩
  go_wp2
  go_ret
  exact ⟨rfl, (below_alloc (below_alloc (Below.refl _ _) _) _).trans (hb.mono (by simp; omega))⟩
theorem kVer_at {w : World} {A : Option Addr} {xs : List Ver} (h : kVer.C w A xs.length xs) (i : Nat) (hi : i < xs.length) : ∃ ad Ax cx, A = some ad ∧ w.cell? (ad.add (i * 4)) = some (.int .u64 (xs.getD i zVer).f0.f0) ∧ w.cell? ⟨(ad.add (i * 4)).block, (ad.add (i * 4)).off + 1, none⟩ = some (.int .u32 (xs.getD i zVer).f0.f1) ∧ w.cell? ⟨(ad.add (i * 4)).block, (ad.add (i * 4)).off + 2, none⟩ = some (.slice Ax (xs.getD i zVer).f1.length cx) ∧ w.cell? ⟨(ad.add (i * 4)).block, (ad.add (i * 4)).off + 3, none⟩ = some (.int .u64 (xs.getD i zVer).f2) ∧ (xs.getD i zVer).f1.length ≤ cx ∧ kS.C w Ax (xs.getD i zVer).f1.length (xs.getD i zVer).f1 := by
  obtain ⟨ad, c, e, _, hK, hc0⟩ := Kd.C_get h zVer i (by omega) (by omega)
  have hc : ∀ j u, c[j]? = some u → w.cell? (ad.add (i * 4 + j)) = some u := hc0
  obtain ⟨Ax, cx, rfl, hl, hC⟩ := k85_open hK
  exact ⟨ad, Ax, cx, e, hc 0 _ rfl, by rw [← add_field _ _ 1 (by omega)]; exact hc 1 _ rfl, by rw [← add_field _ _ 2 (by omega)]; exact hc 2 _ rfl, by rw [← add_field _ _ 3 (by omega)]; exact hc 3 _ rfl, hl, hC⟩
set_option maxRecDepth 100000 in
set_option maxHeartbeats 8000000 in
theorem search_any (A : Option Addr) (R : List Ver) (c : Nat) (v : Id3) (w : World) (hC : kVer.C w A R.length R) (hc : R.length ≤ c) (hs : R.Pairwise (fun x y => ordI x.f0 y.f0 ≤ 0)) (hn : R.length ≤ 1048576) :
    Calls Try.prog 58 #[.slice A R.length c, .agg #[.int .u64 v.f0, .int .u32 v.f1], .func (.func 59) #[] #[]] w fun e w' =>
      ∃ (i : Nat) (b : Bool), e = .returned (.tuple #[.int .i64 i, .bool b]) ∧ b = decide (i < R.length ∧ ordI (R.getD i zVer).f0 v = 0) ∧ R.find? (isId v) = (if b then some (R.getD i zVer) else none) ∧ Below w.heap.size w w' := by
  have hml := hC.2.1
  go_enter Try.func58, Try.ntmps58
  go_wp2_with fail
  obtain ⟨w1, hw1⟩ : ∃ w1, w.alloc (.cells #[.int .u64 v.f0, .int .u32 v.f1] 83) = w1 := ⟨_, rfl⟩
  rw [hw1]
  have hb1 : Below w.heap.size w w1 := by rw [← hw1]; exact below_alloc (Below.refl _ _) _
  have g1 : w1.heap[w.heap.size]? = some (.cells #[.int .u64 v.f0, .int .u32 v.f1] 83 (0, 0)) := by rw [← hw1]; exact blk_new _ _
  clear hw1
  have ho : ∀ x : Ver, ordI x.f0 v = ordI x.f0 v := fun _ => rfl
  go_loopw [9, 10] (fun iv jv wr => ∃ (i j : Nat), iv = .int .i64 (i : Int) ∧ jv = .int .i64 (j : Int) ∧ i ≤ j ∧ j ≤ R.length ∧ (∀ x ∈ R.take i, ordI x.f0 v < 0) ∧ (∀ x ∈ R.drop j, ¬ ordI x.f0 v < 0) ∧ Below w1.heap.size w1 wr) (fun iv jv _ => (intOf jv).toNat - (intOf iv).toNat)
  case atStart => exact ⟨0, R.length, rfl, rfl, Nat.zero_le _, Nat.le_refl _, by simp, by simp, Below.refl _ _⟩
  case round =>
    obtain ⟨i, j, rfl, rfl, hij, hjn, hF1, hF2, hB⟩ := hrel
    have hBw := hb1.trans (hB.mono hb1.size)
    have b0 : ∀ V, Below w1.heap.size w1 V → V.cell? ⟨w.heap.size, 0, none⟩ = some (.int .u64 v.f0) ∧ V.cell? ⟨w.heap.size, 1, none⟩ = some (.int .u32 v.f1) := fun V hV => ⟨blk_cell (blk_below g1 hV) 0, blk_cell (blk_below g1 hV) 1⟩
    by_cases hlt : i < j
    · have hlz : (i : Int) < (j : Int) := by omega
      obtain ⟨s, hs0⟩ : ∃ s : Nat, i + j = s := ⟨_, rfl⟩
      obtain ⟨h, hh⟩ : ∃ h : Nat, s / 2 = h := ⟨_, rfl⟩
      have w1' : (i : Int) + (j : Int) = (s : Int) := by omega
      have w2 : IntKind.i64.wrap (s : Int) = (s : Int) := wrapN (by omega)
      have w3 : (s : Int) / 2 = (h : Int) := by omega
      have w4 : (h : Int) < (R.length : Int) := by omega
      have w4' : h < R.length := by omega
      obtain ⟨ad, Ax, cx, rfl, q0, q1, q2, q3, hlx, hCx⟩ := kVer_at (Kd.C_below hC hBw) h w4'
      have hd := drop_get zVer R h w4'
      have ht := take_snoc' zVer R h w4'
      generalize R.getD h zVer = x at *
      obtain ⟨n, hn'⟩ : ∃ n, ordI x.f0 v = n := ⟨_, rfl⟩
      have hS0 := b0 wr hB
      go_wp2_with fail
      refine (wpIn_wide (n := 0)).1 ?_
      refine wpIn_region_X (l := 0) 8 (S := fun V => (V.cell? (ad.add (h * 4)) = some (.int .u64 x.f0.f0) ∧ V.cell? ⟨(ad.add (h * 4)).block, (ad.add (h * 4)).off + 1, none⟩ = some (.int .u32 x.f0.f1) ∧ V.cell? ⟨(ad.add (h * 4)).block, (ad.add (h * 4)).off + 2, none⟩ = some (.slice Ax x.f1.length cx) ∧ V.cell? ⟨(ad.add (h * 4)).block, (ad.add (h * 4)).off + 3, none⟩ = some (.int .u64 x.f2)) ∧ (V.cell? ⟨w.heap.size, 0, none⟩ = some (.int .u64 v.f0) ∧ V.cell? ⟨w.heap.size, 1, none⟩ = some (.int .u32 v.f1))) (by kernel_rfl) ⟨⟨q0, q1, q2, q3⟩, hS0⟩ (fun hS0 => ?_)
      refine wpAnyX_pure (i := 0) (oi := ⟨some 24, _, _, _, _, _⟩) (v := ?_) (by kernel_rfl) (by kernel_rfl) rfl (by kernel_rfl) (by kernel_rfl) (by kernel_rfl) (fun _ _ _ h => h) (Or.inl ⟨by rfl, ?_⟩) (by assumption) ?_
      rotate_left
      · intro w _; go_simp; (try (with_reducible rfl))
      (try simp only [Act.put, List.setIfInBounds_toArray, List.set_cons_zero, List.set_cons_succ])
      refine wpAnyX_pure (i := 1) (oi := ⟨some 25, _, _, _, _, _⟩) (v := ?_) (by kernel_rfl) (by kernel_rfl) rfl (by kernel_rfl) (by kernel_rfl) (by kernel_rfl) (fun _ _ _ h => h) (Or.inl ⟨by rfl, ?_⟩) (by assumption) ?_
      rotate_left
      · intro w _; go_simp; (try (with_reducible rfl))
      (try simp only [Act.put, List.setIfInBounds_toArray, List.set_cons_zero, List.set_cons_succ])
      refine wpAnyX_pure (i := 2) (oi := ⟨some 26, _, _, _, _, _⟩) (v := ?_) (by kernel_rfl) (by kernel_rfl) rfl (by kernel_rfl) (by kernel_rfl) (by kernel_rfl) (fun _ _ _ h => h) (Or.inl ⟨by rfl, ?_⟩) (by assumption) ?_
      rotate_left
      · intro w _; go_simp; (try (with_reducible rfl))
      (try simp only [Act.put, List.setIfInBounds_toArray, List.set_cons_zero, List.set_cons_succ])
      refine wpAnyX_pure (i := 3) (oi := ⟨some 27, _, _, _, _, _⟩) (v := ?_) (by kernel_rfl) (by kernel_rfl) rfl (by kernel_rfl) (by kernel_rfl) (by kernel_rfl) (fun _ _ _ h => h) (Or.inl ⟨by rfl, ?_⟩) (by assumption) ?_
      rotate_left
      · intro w _; go_simp; (try (with_reducible rfl))
      (try simp only [Act.put, List.setIfInBounds_toArray, List.set_cons_zero, List.set_cons_succ])
      refine wpAnyX_take (i := 4) (oi := ⟨some 28, _, _, _, _, _⟩) (v := ?_) (by kernel_rfl) (by kernel_rfl) (by kernel_rfl) rfl (by kernel_rfl) (by kernel_rfl) (by kernel_rfl) (by kernel_rfl) (fun _ _ _ h => h) (Or.inl ⟨by rfl, ?_⟩) (by assumption) ?_
      rotate_left
      · intro w hSw; (try dsimp only at hSw); (try go_split_ands); go_simp; (try (with_reducible rfl))
      (try simp only [Act.put, List.setIfInBounds_toArray, List.set_cons_zero, List.set_cons_succ])
      refine wpAnyX_take (i := 5) (oi := ⟨some 29, _, _, _, _, _⟩) (v := ?_) (by kernel_rfl) (by kernel_rfl) (by kernel_rfl) rfl (by kernel_rfl) (by kernel_rfl) (by kernel_rfl) (by kernel_rfl) (fun _ _ _ h => h) (Or.inl ⟨by rfl, ?_⟩) (by assumption) ?_
      rotate_left
      · intro w hSw; (try dsimp only at hSw); (try go_split_ands); go_simp; (try (with_reducible rfl))
      (try simp only [Act.put, List.setIfInBounds_toArray, List.set_cons_zero, List.set_cons_succ])
      refine wpAnyX_one (i := 6) (o := ⟨some 30, _, _, _, _, _⟩) (by kernel_rfl) (by kernel_rfl) rfl (fun K hK => ?_)
      go_simp
      have hcc := cmpRe2_any x v (.slice Ax x.f1.length cx) ⟨_, _, rfl⟩ wr.drew
      rw [hn'] at hcc
      refine hcc.mono ?_
      rintro e w5 ⟨rfl, hb5⟩
      clear hcc
      have hb5' : Below wr.heap.size wr w5 := (below_drew (Below.refl _ wr)).trans hb5
      have hB5 : Below w1.heap.size w1 w5 := hB.trans (hb5'.mono hB.size)
      have hS5 := And.intro (show w5.cell? (ad.add (h * 4)) = some (.int .u64 x.f0.f0) ∧ w5.cell? ⟨(ad.add (h * 4)).block, (ad.add (h * 4)).off + 1, none⟩ = some (.int .u32 x.f0.f1) ∧ w5.cell? ⟨(ad.add (h * 4)).block, (ad.add (h * 4)).off + 2, none⟩ = some (.slice Ax x.f1.length cx) ∧ w5.cell? ⟨(ad.add (h * 4)).block, (ad.add (h * 4)).off + 3, none⟩ = some (.int .u64 x.f2) from ⟨pw_cell_below hb5' q0, pw_cell_below hb5' q1, pw_cell_below hb5' q2, pw_cell_below hb5' q3⟩) (b0 w5 hB5)
      (try dsimp only)
      refine hK.out _ _ (.inr hS5) ?_
      clear hK K
      (try simp only [Act.put, List.setIfInBounds_toArray, List.set_cons_zero, List.set_cons_succ])
      have hsR := hs
      by_cases hz : n < 0
      ·
        refine wpAnyX_pure (i := 7) (oi := ⟨some 31, _, _, _, _, _⟩) (v := ?_) (by kernel_rfl) (by kernel_rfl) rfl (by kernel_rfl) (by kernel_rfl) (by kernel_rfl) (fun _ _ _ h => h) (Or.inl ⟨by rfl, ?_⟩) (by assumption) ?_
        rotate_left
        · intro w _; go_simp; (try (with_reducible rfl))
        (try simp only [Act.put, List.setIfInBounds_toArray, List.set_cons_zero, List.set_cons_succ])
        refine wpAnyX_done (by kernel_rfl) ?_ _
        clear hS5 hS0
        go_wp2
        go_roundw
        case rel =>
          refine ⟨h + 1, j, by go_num, rfl, by omega, hjn, ?_, fun y hy => by have := hF2 y hy; omega, hB5⟩
          rw [← ht]
          intro y hy
          rcases List.mem_append.1 hy with hy | hy
          · have hyx : ordI y.f0 x.f0 ≤ 0 := by
              have h9 := hsR
              rw [← List.take_append_drop h R, hd] at h9
              exact (List.pairwise_append.1 h9).2.2 y hy x (by simp)
            exact preI.le_lt hyx (by rw [hn']; exact hz)
          · rw [List.mem_singleton.1 hy, hn']; exact hz
        case measure => simp [intOf]; omega
      ·
        refine wpAnyX_pure (i := 7) (oi := ⟨some 31, _, _, _, _, _⟩) (v := ?_) (by kernel_rfl) (by kernel_rfl) rfl (by kernel_rfl) (by kernel_rfl) (by kernel_rfl) (fun _ _ _ h => h) (Or.inl ⟨by rfl, ?_⟩) (by assumption) ?_
        rotate_left
        · intro w _; go_simp; (try (with_reducible rfl))
        (try simp only [Act.put, List.setIfInBounds_toArray, List.set_cons_zero, List.set_cons_succ])
        refine wpAnyX_done (by kernel_rfl) ?_ _
        clear hS5 hS0
        go_wp2
        go_roundw
        case rel =>
          refine ⟨i, h, rfl, by go_num, by omega, by omega, hF1, ?_, hB5⟩
          rw [hd]
          intro y hy
          rcases List.mem_cons.1 hy with hy | hy
          · rw [hy, hn']; exact hz
          · have hxy : ordI x.f0 y.f0 ≤ 0 := by
              have h9 := hsR.sublist (List.drop_sublist h R)
              rw [hd] at h9
              exact (List.pairwise_cons.1 h9).1 y hy
            intro hlt'
            exact hz (by rw [← hn']; exact preI.le_lt hxy hlt')
        case measure => simp [intOf]; omega
    · obtain rfl : i = j := by omega
      have hlz : ¬ (i : Int) < (i : Int) := by omega
      clear hlt
      have hfc := find_cut hs hF1 (fun y hy => by have := hF2 y hy; omega)
      by_cases hin : i < R.length
      · have hiz : (i : Int) < (R.length : Int) := by omega
        have hizd : decide ((i : Int) < (R.length : Int)) = true := decide_eq_true hiz
        obtain ⟨ad, Ax, cx, rfl, q0, q1, q2, q3, hlx, hCx⟩ := kVer_at (Kd.C_below hC hBw) i hin
        have HFC := Lib.hid hfc
        clear hfc hF1 hF2
        have hgx : ∃ x, R.getD i zVer = x := ⟨_, rfl⟩
        obtain ⟨x, hgx⟩ := hgx
        rw [hgx] at q0 q1 q2 q3 hlx hCx
        have HGX := Lib.hid hgx
        clear hgx
        obtain ⟨n, hn'⟩ : ∃ n, ordI x.f0 v = n := ⟨_, rfl⟩
        have hS0 := b0 wr hB
        go_wp2_with fail
        refine (wpIn_wide (n := 0)).1 ?_
        refine wpIn_region_X (l := 0) 16 (S := fun V => (V.cell? (ad.add (i * 4)) = some (.int .u64 x.f0.f0) ∧ V.cell? ⟨(ad.add (i * 4)).block, (ad.add (i * 4)).off + 1, none⟩ = some (.int .u32 x.f0.f1) ∧ V.cell? ⟨(ad.add (i * 4)).block, (ad.add (i * 4)).off + 2, none⟩ = some (.slice Ax x.f1.length cx) ∧ V.cell? ⟨(ad.add (i * 4)).block, (ad.add (i * 4)).off + 3, none⟩ = some (.int .u64 x.f2)) ∧ (V.cell? ⟨w.heap.size, 0, none⟩ = some (.int .u64 v.f0) ∧ V.cell? ⟨w.heap.size, 1, none⟩ = some (.int .u32 v.f1))) (by kernel_rfl) ⟨⟨q0, q1, q2, q3⟩, hS0⟩ (fun hS0 => ?_)
        refine wpAnyX_pure (i := 0) (oi := ⟨some 35, _, _, _, _, _⟩) (v := ?_) (by kernel_rfl) (by kernel_rfl) rfl (by kernel_rfl) (by kernel_rfl) (by kernel_rfl) (fun _ _ _ h => h) (Or.inl ⟨by rfl, ?_⟩) (by assumption) ?_
        rotate_left
        · intro w _; go_simp; (try (with_reducible rfl))
        (try simp only [Act.put, List.setIfInBounds_toArray, List.set_cons_zero, List.set_cons_succ])
        refine wpAnyX_pure (i := 1) (oi := ⟨some 36, _, _, _, _, _⟩) (v := ?_) (by kernel_rfl) (by kernel_rfl) rfl (by kernel_rfl) (by kernel_rfl) (by kernel_rfl) (fun _ _ _ h => h) (Or.inl ⟨by rfl, ?_⟩) (by assumption) ?_
        rotate_left
        · intro w _; go_simp; (try (with_reducible rfl))
        (try simp only [Act.put, List.setIfInBounds_toArray, List.set_cons_zero, List.set_cons_succ])
        refine wpAnyX_pure (i := 2) (oi := ⟨some 37, _, _, _, _, _⟩) (v := ?_) (by kernel_rfl) (by kernel_rfl) rfl (by kernel_rfl) (by kernel_rfl) (by kernel_rfl) (fun _ _ _ h => h) (Or.inl ⟨by rfl, ?_⟩) (by assumption) ?_
        rotate_left
        · intro w _; go_simp; (try (with_reducible rfl))
        (try simp only [Act.put, List.setIfInBounds_toArray, List.set_cons_zero, List.set_cons_succ])
        refine wpAnyX_pure (i := 3) (oi := ⟨some 38, _, _, _, _, _⟩) (v := ?_) (by kernel_rfl) (by kernel_rfl) rfl (by kernel_rfl) (by kernel_rfl) (by kernel_rfl) (fun _ _ _ h => h) (Or.inl ⟨by rfl, ?_⟩) (by assumption) ?_
        rotate_left
        · intro w _; go_simp; (try (with_reducible rfl))
        (try simp only [Act.put, List.setIfInBounds_toArray, List.set_cons_zero, List.set_cons_succ])
        refine wpAnyX_pure (i := 4) (oi := ⟨some 39, _, _, _, _, _⟩) (v := ?_) (by kernel_rfl) (by kernel_rfl) rfl (by kernel_rfl) (by kernel_rfl) (by kernel_rfl) (fun _ _ _ h => h) (Or.inl ⟨by rfl, ?_⟩) (by assumption) ?_
        rotate_left
        · intro w _; go_simp; (try (with_reducible rfl))
        (try simp only [Act.put, List.setIfInBounds_toArray, List.set_cons_zero, List.set_cons_succ])
        refine wpAnyX_pure (i := 5) (oi := ⟨some 40, _, _, _, _, _⟩) (v := ?_) (by kernel_rfl) (by kernel_rfl) rfl (by kernel_rfl) (by kernel_rfl) (by kernel_rfl) (fun _ _ _ h => h) (Or.inl ⟨by rfl, ?_⟩) (by assumption) ?_
        rotate_left
        · intro w _; go_simp; (try (with_reducible rfl))
        (try simp only [Act.put, List.setIfInBounds_toArray, List.set_cons_zero, List.set_cons_succ])
        refine wpAnyX_pure (i := 6) (oi := ⟨some 41, _, _, _, _, _⟩) (v := ?_) (by kernel_rfl) (by kernel_rfl) rfl (by kernel_rfl) (by kernel_rfl) (by kernel_rfl) (fun _ _ _ h => h) (Or.inl ⟨by rfl, ?_⟩) (by assumption) ?_
        rotate_left
        · intro w _; go_simp; (try (with_reducible rfl))
        (try simp only [Act.put, List.setIfInBounds_toArray, List.set_cons_zero, List.set_cons_succ])
        refine wpAnyX_pure (i := 7) (oi := ⟨some 42, _, _, _, _, _⟩) (v := ?_) (by kernel_rfl) (by kernel_rfl) rfl (by kernel_rfl) (by kernel_rfl) (by kernel_rfl) (fun _ _ _ h => h) (Or.inl ⟨by rfl, ?_⟩) (by assumption) ?_
        rotate_left
        · intro w _; go_simp; (try (with_reducible rfl))
        (try simp only [Act.put, List.setIfInBounds_toArray, List.set_cons_zero, List.set_cons_succ])
        refine wpAnyX_pure (i := 8) (oi := ⟨some 43, _, _, _, _, _⟩) (v := ?_) (by kernel_rfl) (by kernel_rfl) rfl (by kernel_rfl) (by kernel_rfl) (by kernel_rfl) (fun _ _ _ h => h) (Or.inl ⟨by rfl, ?_⟩) (by assumption) ?_
        rotate_left
        · intro w _; go_simp; (try (with_reducible rfl))
        (try simp only [Act.put, List.setIfInBounds_toArray, List.set_cons_zero, List.set_cons_succ])
        refine wpAnyX_take (i := 9) (oi := ⟨some 44, _, _, _, _, _⟩) (v := ?_) (by kernel_rfl) (by kernel_rfl) (by kernel_rfl) rfl (by kernel_rfl) (by kernel_rfl) (by kernel_rfl) (by kernel_rfl) (fun _ _ _ h => h) (Or.inl ⟨by rfl, ?_⟩) (by assumption) ?_
        rotate_left
        · intro w hSw; (try dsimp only at hSw); (try go_split_ands); go_simp; (try (with_reducible rfl))
        (try simp only [Act.put, List.setIfInBounds_toArray, List.set_cons_zero, List.set_cons_succ])
        refine wpAnyX_take (i := 10) (oi := ⟨some 45, _, _, _, _, _⟩) (v := ?_) (by kernel_rfl) (by kernel_rfl) (by kernel_rfl) rfl (by kernel_rfl) (by kernel_rfl) (by kernel_rfl) (by kernel_rfl) (fun _ _ _ h => h) (Or.inl ⟨by rfl, ?_⟩) (by assumption) ?_
        rotate_left
        · intro w hSw; (try dsimp only at hSw); (try go_split_ands); go_simp; (try (with_reducible rfl))
        (try simp only [Act.put, List.setIfInBounds_toArray, List.set_cons_zero, List.set_cons_succ])
        refine wpAnyX_one (i := 11) (o := ⟨some 46, _, _, _, _, _⟩) (by kernel_rfl) (by kernel_rfl) rfl (fun K hK => ?_)
        go_simp
        have hcc := cmpRe2_any x v (.slice Ax x.f1.length cx) ⟨_, _, rfl⟩ wr.drew
        rw [hn'] at hcc
        refine hcc.mono ?_
        rintro e w5 ⟨rfl, hb5⟩
        clear hcc
        have hb5' : Below wr.heap.size wr w5 := (below_drew (Below.refl _ wr)).trans hb5
        have hB5 : Below w1.heap.size w1 w5 := hB.trans (hb5'.mono hB.size)
        have hS5 := And.intro (show w5.cell? (ad.add (i * 4)) = some (.int .u64 x.f0.f0) ∧ w5.cell? ⟨(ad.add (i * 4)).block, (ad.add (i * 4)).off + 1, none⟩ = some (.int .u32 x.f0.f1) ∧ w5.cell? ⟨(ad.add (i * 4)).block, (ad.add (i * 4)).off + 2, none⟩ = some (.slice Ax x.f1.length cx) ∧ w5.cell? ⟨(ad.add (i * 4)).block, (ad.add (i * 4)).off + 3, none⟩ = some (.int .u64 x.f2) from ⟨pw_cell_below hb5' q0, pw_cell_below hb5' q1, pw_cell_below hb5' q2, pw_cell_below hb5' q3⟩) (b0 w5 hB5)
        (try dsimp only)
        refine hK.out _ _ (.inr hS5) ?_
        clear hK K
        (try simp only [Act.put, List.setIfInBounds_toArray, List.set_cons_zero, List.set_cons_succ])
        have HN := Lib.hid hn'
        clear hn'
        obtain ⟨bz, hbz⟩ : ∃ bz : Bool, (n == 0) = bz := ⟨_, rfl⟩
        have hbd : decide (n = 0) = bz := by rw [← hbz]; rfl
        have HBZ := Lib.hid hbz
        refine wpAnyX_pure (i := 12) (oi := ⟨some 47, _, _, _, _, _⟩) (v := ?_) (by kernel_rfl) (by kernel_rfl) rfl (by kernel_rfl) (by kernel_rfl) (by kernel_rfl) (fun _ _ _ h => h) (Or.inl ⟨by rfl, ?_⟩) (by assumption) ?_
        rotate_left
        · intro w _; go_simp; (try (with_reducible rfl))
        (try simp only [Act.put, List.setIfInBounds_toArray, List.set_cons_zero, List.set_cons_succ])
        refine wpAnyX_pure (i := 13) (oi := ⟨some 48, _, _, _, _, _⟩) (v := ?_) (by kernel_rfl) (by kernel_rfl) rfl (by kernel_rfl) (by kernel_rfl) (by kernel_rfl) (fun _ _ _ h => h) (Or.inl ⟨by rfl, ?_⟩) (by assumption) ?_
        rotate_left
        · intro w _; go_simp; (try (with_reducible rfl))
        (try simp only [Act.put, List.setIfInBounds_toArray, List.set_cons_zero, List.set_cons_succ])
        refine wpAnyX_pure (i := 14) (oi := ⟨some 6, _, _, _, _, _⟩) (v := ?_) (by kernel_rfl) (by kernel_rfl) rfl (by kernel_rfl) (by kernel_rfl) (by kernel_rfl) (fun _ _ _ h => h) (Or.inl ⟨by rfl, ?_⟩) (by assumption) ?_
        rotate_left
        · intro w _; go_simp; (try (with_reducible rfl))
        (try simp only [Act.put, List.setIfInBounds_toArray, List.set_cons_zero, List.set_cons_succ])
        refine wpAnyX_pure (i := 15) (oi := ⟨some 7, _, _, _, _, _⟩) (v := ?_) (by kernel_rfl) (by kernel_rfl) rfl (by kernel_rfl) (by kernel_rfl) (by kernel_rfl) (fun _ _ _ h => h) (Or.inl ⟨by rfl, ?_⟩) (by assumption) ?_
        rotate_left
        · intro w _; go_simp; (try (with_reducible rfl))
        (try simp only [Act.put, List.setIfInBounds_toArray, List.set_cons_zero, List.set_cons_succ])
        refine wpAnyX_done (by kernel_rfl) ?_ _
        clear hS5 hS0
        go_wp2
        refine bodyPost_ret (v := .tuple #[.int .i64 i, .bool bz]) (by simp [results, Try.results58, go_sem]; try rfl) rfl ?_
        have hb2 : bz = decide (i < R.length ∧ ordI (R.getD i zVer).f0 v = 0) := by
          rw [← HBZ.out, HGX.out, HN.out]
          simp [hin]
          rfl
        refine ⟨i, bz, rfl, hb2, ?_, hb1.trans (hB5.mono hb1.size)⟩
        rw [HFC.out, hb2]
        simp only [decide_eq_true_eq]
      · have hiz : ¬ (i : Int) < (R.length : Int) := by omega
        have hizd : decide ((i : Int) < (R.length : Int)) = false := decide_eq_false hiz
        have HFC := Lib.hid hfc
        clear hfc hF1 hF2
        have hS0 := b0 wr hB
        go_wp2_with fail
        refine (wpIn_wide (n := 0)).1 ?_
        refine wpIn_region_X (l := 0) 16 (S := fun V => True) (by kernel_rfl) trivial (fun hS0 => ?_)
        refine wpAnyX_pure (i := 0) (oi := ⟨some 35, _, _, _, _, _⟩) (v := ?_) (by kernel_rfl) (by kernel_rfl) rfl (by kernel_rfl) (by kernel_rfl) (by kernel_rfl) (fun _ _ _ h => h) (Or.inl ⟨by rfl, ?_⟩) (by assumption) ?_
        rotate_left
        · intro w _; go_simp; (try (with_reducible rfl))
        (try simp only [Act.put, List.setIfInBounds_toArray, List.set_cons_zero, List.set_cons_succ])
        refine wpAnyX_pure (i := 1) (oi := ⟨some 36, _, _, _, _, _⟩) (v := ?_) (by kernel_rfl) (by kernel_rfl) rfl (by kernel_rfl) (by kernel_rfl) (by kernel_rfl) (fun _ _ _ h => h) (Or.inl ⟨by rfl, ?_⟩) (by assumption) ?_
        rotate_left
        · intro w _; go_simp; (try (with_reducible rfl))
        (try simp only [Act.put, List.setIfInBounds_toArray, List.set_cons_zero, List.set_cons_succ])
        refine wpAnyX_pure (i := 2) (oi := ⟨some 37, _, _, _, _, _⟩) (v := ?_) (by kernel_rfl) (by kernel_rfl) rfl (by kernel_rfl) (by kernel_rfl) (by kernel_rfl) (fun _ _ _ h => h) (Or.inl ⟨by rfl, ?_⟩) (by assumption) ?_
        rotate_left
        · intro w _; go_simp; (try (with_reducible rfl))
        (try simp only [Act.put, List.setIfInBounds_toArray, List.set_cons_zero, List.set_cons_succ])
        refine wpAnyX_pure (i := 3) (oi := ⟨some 38, _, _, _, _, _⟩) (v := ?_) (by kernel_rfl) (by kernel_rfl) rfl (by kernel_rfl) (by kernel_rfl) (by kernel_rfl) (fun _ _ _ h => h) (Or.inl ⟨by rfl, ?_⟩) (by assumption) ?_
        rotate_left
        · intro w _; go_simp; (try (with_reducible rfl))
        (try simp only [Act.put, List.setIfInBounds_toArray, List.set_cons_zero, List.set_cons_succ])
        refine wpAnyX_pure (i := 4) (oi := ⟨some 39, _, _, _, _, _⟩) (v := ?_) (by kernel_rfl) (by kernel_rfl) rfl (by kernel_rfl) (by kernel_rfl) (by kernel_rfl) (fun _ _ _ h => h) (Or.inl ⟨by rfl, ?_⟩) (by assumption) ?_
        rotate_left
        · intro w _; go_simp; (try (with_reducible rfl))
        (try simp only [Act.put, List.setIfInBounds_toArray, List.set_cons_zero, List.set_cons_succ])
        refine wpAnyX_pure (i := 5) (oi := ⟨some 40, _, _, _, _, _⟩) (v := undef) (by kernel_rfl) (by kernel_rfl) rfl (by kernel_rfl) (by kernel_rfl) (by kernel_rfl) (fun _ _ _ h => h) (Or.inr ⟨by rfl, rfl⟩) (by assumption) ?_
        (try simp only [Act.put, List.setIfInBounds_toArray, List.set_cons_zero, List.set_cons_succ])
        refine wpAnyX_pure (i := 6) (oi := ⟨some 41, _, _, _, _, _⟩) (v := undef) (by kernel_rfl) (by kernel_rfl) rfl (by kernel_rfl) (by kernel_rfl) (by kernel_rfl) (fun _ _ _ h => h) (Or.inr ⟨by rfl, rfl⟩) (by assumption) ?_
        (try simp only [Act.put, List.setIfInBounds_toArray, List.set_cons_zero, List.set_cons_succ])
        refine wpAnyX_pure (i := 7) (oi := ⟨some 42, _, _, _, _, _⟩) (v := undef) (by kernel_rfl) (by kernel_rfl) rfl (by kernel_rfl) (by kernel_rfl) (by kernel_rfl) (fun _ _ _ h => h) (Or.inr ⟨by rfl, rfl⟩) (by assumption) ?_
        (try simp only [Act.put, List.setIfInBounds_toArray, List.set_cons_zero, List.set_cons_succ])
        refine wpAnyX_pure (i := 8) (oi := ⟨some 43, _, _, _, _, _⟩) (v := undef) (by kernel_rfl) (by kernel_rfl) rfl (by kernel_rfl) (by kernel_rfl) (by kernel_rfl) (fun _ _ _ h => h) (Or.inr ⟨by rfl, rfl⟩) (by assumption) ?_
        (try simp only [Act.put, List.setIfInBounds_toArray, List.set_cons_zero, List.set_cons_succ])
        refine wpAnyX_pure (i := 9) (oi := ⟨some 44, _, _, _, _, _⟩) (v := undef) (by kernel_rfl) (by kernel_rfl) rfl (by kernel_rfl) (by kernel_rfl) (by kernel_rfl) (fun _ _ _ h => h) (Or.inr ⟨by rfl, rfl⟩) (by assumption) ?_
        (try simp only [Act.put, List.setIfInBounds_toArray, List.set_cons_zero, List.set_cons_succ])
        refine wpAnyX_pure (i := 10) (oi := ⟨some 45, _, _, _, _, _⟩) (v := undef) (by kernel_rfl) (by kernel_rfl) rfl (by kernel_rfl) (by kernel_rfl) (by kernel_rfl) (fun _ _ _ h => h) (Or.inr ⟨by rfl, rfl⟩) (by assumption) ?_
        (try simp only [Act.put, List.setIfInBounds_toArray, List.set_cons_zero, List.set_cons_succ])
        refine wpAnyX_pure (i := 11) (oi := ⟨some 46, _, _, _, _, _⟩) (v := undef) (by kernel_rfl) (by kernel_rfl) rfl (by kernel_rfl) (by kernel_rfl) (by kernel_rfl) (fun _ _ _ h => h) (Or.inr ⟨by rfl, rfl⟩) (by assumption) ?_
        (try simp only [Act.put, List.setIfInBounds_toArray, List.set_cons_zero, List.set_cons_succ])
        refine wpAnyX_pure (i := 12) (oi := ⟨some 47, _, _, _, _, _⟩) (v := undef) (by kernel_rfl) (by kernel_rfl) rfl (by kernel_rfl) (by kernel_rfl) (by kernel_rfl) (fun _ _ _ h => h) (Or.inr ⟨by rfl, rfl⟩) (by assumption) ?_
        (try simp only [Act.put, List.setIfInBounds_toArray, List.set_cons_zero, List.set_cons_succ])
        refine wpAnyX_pure (i := 13) (oi := ⟨some 48, _, _, _, _, _⟩) (v := ?_) (by kernel_rfl) (by kernel_rfl) rfl (by kernel_rfl) (by kernel_rfl) (by kernel_rfl) (fun _ _ _ h => h) (Or.inl ⟨by rfl, ?_⟩) (by assumption) ?_
        rotate_left
        · intro w _; go_simp; (try (with_reducible rfl))
        (try simp only [Act.put, List.setIfInBounds_toArray, List.set_cons_zero, List.set_cons_succ])
        refine wpAnyX_pure (i := 14) (oi := ⟨some 6, _, _, _, _, _⟩) (v := ?_) (by kernel_rfl) (by kernel_rfl) rfl (by kernel_rfl) (by kernel_rfl) (by kernel_rfl) (fun _ _ _ h => h) (Or.inl ⟨by rfl, ?_⟩) (by assumption) ?_
        rotate_left
        · intro w _; go_simp; (try (with_reducible rfl))
        (try simp only [Act.put, List.setIfInBounds_toArray, List.set_cons_zero, List.set_cons_succ])
        refine wpAnyX_pure (i := 15) (oi := ⟨some 7, _, _, _, _, _⟩) (v := ?_) (by kernel_rfl) (by kernel_rfl) rfl (by kernel_rfl) (by kernel_rfl) (by kernel_rfl) (fun _ _ _ h => h) (Or.inl ⟨by rfl, ?_⟩) (by assumption) ?_
        rotate_left
        · intro w _; go_simp; (try (with_reducible rfl))
        (try simp only [Act.put, List.setIfInBounds_toArray, List.set_cons_zero, List.set_cons_succ])
        refine wpAnyX_done (by kernel_rfl) ?_ _
        go_wp2
        refine bodyPost_ret (v := .tuple #[.int .i64 i, .bool false]) (by simp [results, Try.results58, go_sem]; try rfl) rfl ?_
        refine ⟨i, false, rfl, by simp [hin], ?_, hBw.trans ((below_drew (Below.refl _ wr)).mono hBw.size)⟩
        rw [HFC.out, if_neg (by omega)]
        rfl
end Go.Proofs.Ytghblnldokpceaa.QV
/- exec.Rejoin: what the sort and the search are handed. -/
namespace Go.Proofs.Ytghblnldokpceaa.QV
open Go.RowKit Go.Proofs.YtghblnldokpceaaW.PrintWords Go.Proofs.Ytghblnldokpceaa.SeqW Go.Proofs.Ytghblnldokpceaa.SeqX Go.Shelf Go.Proofs.Ytghblnldokpceaa.Op Go.Proofs.Ytghblnldokpceaa.Stab
set_option linter.unusedVariables false
set_option linter.unusedSimpArgs false
theorem heapS2 : Kd.Heap kS := Kd.heap_iso _ (Kd.heap_pair (Kd.heap_int _) (Kd.heap_pair Kd.heap_bool (Kd.heap_pair (Kd.heap_int _) Kd.heap_string)))
theorem heapVer : Kd.Heap kVer := Kd.heap_iso _ (Kd.heap_pair (Kd.heap_iso _ (Kd.heap_pair (Kd.heap_int _) (Kd.heap_int _))) (Kd.heap_pair (Kd.heap_slice _ heapS2) (Kd.heap_int _)))
theorem infoVer : (Try.prog.info? 85).map (fun i => (i.zero, i.size, i.bytes)) = some (some (.agg #[.int .u64 0, .int .u32 0, .slice none 0 0, .int .u64 0]), 4, 48) := by kernel_rfl
set_option maxHeartbeats 1000000 in
theorem clone_vers (A : Option Addr) (l : List Ver) (c : Nat) (w : World) (hr : kVer.C w A l.length l) (hc : l.length ≤ c) (hb : l.length * 48 ≤ 140737488355328) :
    Calls Try.prog 54 #[.slice A l.length c] w fun e w' => ∃ v, e = .returned v ∧ Kd.N kVer tVer w' w.heap.size (fun _ => True) v l ∧ Below w.heap.size w w' := by
  have hmax := hr.2.1
  cases A with
  | none =>
    have hl : l = [] := by
      cases l with
      | nil => rfl
      | cons x l => obtain ⟨ad, e, _⟩ := hr.2.2 (by simp); cases e
    subst hl
    have hn := Lib.run_eql_slice_nil (P := Try.prog)
    go_enter Try.func54, Try.ntmps54
    go_wp2
    go_ret
    exact ⟨_, rfl, Kd.N_nil _ _ _ _ _, Below.refl _ _⟩
  | some ad =>
    have hn := Lib.run_eql_slice_nil (P := Try.prog)
    have hF : Kd.F kVer w (fun k => k < w.heap.size) (some ad) l.length l := Kd.C_F heapVer hr
    go_enter Try.func54, Try.ntmps54
    go_wp2_with (at_builtin; refine Kd.N_append_rows kVer (w0 := w) w.heap.size rfl (.tmp 5) (.tmp 6) 55 tVer _ 48 rfl Try.underlying55 infoVer rfl (by decide) (by decide) (.slice (some ⟨w.heap.size, 0, none⟩) 0 0) [] l (some ad) l.length c (fun _ => True) (fun k => k < w.heap.size) rfl rfl (Kd.R_N (R_empty' kVer _ _ _ _ (Nat.le_refl _) trivial)) (Kd.F_alloc hF _) (fun k hk => ⟨trivial, fun e => by simp [Value.ownBlock] at e; omega⟩) (fun _ _ => trivial) (below_alloc (Below.refl _ _) _) (by simp) (by simp; omega) ?_; intro v1 w4 hv1 hB7 hg7 hat7; clear hg7 hat7)
    go_ret
    exact ⟨v1, rfl, by simpa using hv1, hB7⟩

theorem take4 (l : List Value) (m : Nat) (c0 c1 c2 c3 : Value) (h0 : l[m]? = some c0) (h1 : l[m + 1]? = some c1) (h2 : l[m + 2]? = some c2) (h3 : l[m + 3]? = some c3) : l.take (m + 4) = l.take m ++ [c0, c1, c2, c3] := by
  rw [show m + 4 = m + 1 + 1 + 1 + 1 from rfl, List.take_add_one, List.take_add_one, List.take_add_one, List.take_add_one, h0, h1, h2, h3]
  simp
theorem flat_take (l : List Value) (enc : Nat → List Value) : ∀ (n : Nat), (∀ i, i < n → ∃ c0 c1 c2 c3, enc i = [c0, c1, c2, c3] ∧ l[i * 4]? = some c0 ∧ l[i * 4 + 1]? = some c1 ∧ l[i * 4 + 2]? = some c2 ∧ l[i * 4 + 3]? = some c3) → (List.range n).flatMap enc = l.take (n * 4)
  | 0, _ => by simp
  | n + 1, h => by
    obtain ⟨c0, c1, c2, c3, he, h0, h1, h2, h3⟩ := h n (by omega)
    rw [List.range_succ, List.flatMap_append, flat_take l enc n (fun i hi => h i (by omega)), List.flatMap_singleton, he, Nat.succ_mul, take4 l (n * 4) c0 c1 c2 c3 h0 h1 h2 h3]
/-- A list of versions of one's own, as the sort takes it. -/
theorem vers_enc {W : World} {base : Nat} {ok : Nat → Prop} {v : Value} {xs : List Ver} (hN : Kd.N kVer tVer W base ok v xs) (hn : 0 < xs.length) :
    ∃ g cap enc rest, v = .slice (some ⟨g, 0, none⟩) xs.length cap ∧ xs.length ≤ cap ∧ base ≤ g ∧ g < W.heap.size ∧ ElV enc rest g (List.range xs.length) W ∧
      ∀ i, (∃ A c, enc i = [.int .u64 (xs.getD i zVer).f0.f0, .int .u32 (xs.getD i zVer).f0.f1, .slice A (xs.getD i zVer).f1.length c, .int .u64 (xs.getD i zVer).f2]) ∧ ∀ V, Seq.Kpt (fun j => j = g) W V → kVer.K V (xs.getD i zVer) (enc i) := by
  obtain ⟨g, cap, rfl, hgb, hgl, cells, hcells⟩ := Kd.N_form hN hn
  have hle := (Kd.N_reads' hN).2.1
  have hget : ∀ i, i < xs.length → ∃ A c, (cells.toList[i * 4]? = some (.int .u64 (xs.getD i zVer).f0.f0) ∧ cells.toList[i * 4 + 1]? = some (.int .u32 (xs.getD i zVer).f0.f1) ∧ cells.toList[i * 4 + 2]? = some (.slice A (xs.getD i zVer).f1.length c) ∧ cells.toList[i * 4 + 3]? = some (.int .u64 (xs.getD i zVer).f2)) ∧
      ∀ V, Seq.Kpt (fun j => j = g) W V → kVer.K V (xs.getD i zVer) [.int .u64 (xs.getD i zVer).f0.f0, .int .u32 (xs.getD i zVer).f0.f1, .slice A (xs.getD i zVer).f1.length c, .int .u64 (xs.getD i zVer).f2] := by
    intro i hi
    obtain ⟨cs, hcl, hFK, hcc⟩ := Kd.N_get hN zVer (i : Int) (by omega) (by omega)
    rw [Int.toNat_natCast] at hFK hcc
    obtain ⟨A, c, rfl, hl, hF⟩ := k85_openF hFK
    have hsz : kVer.sz = 4 := rfl
    have hc : ∀ (k : Nat) (u : Value), [Value.int .u64 (xs.getD i zVer).f0.f0, Value.int .u32 (xs.getD i zVer).f0.f1, Value.slice A (xs.getD i zVer).f1.length c, Value.int .u64 (xs.getD i zVer).f2][k]? = some u → cells.toList[i * 4 + k]? = some u := by
      intro k u hu
      have h := hcc k u hu
      rw [hsz, add_plain, blk_cell hcells] at h
      rw [Array.getElem?_toList]; exact h
    exact ⟨A, c, ⟨hc 0 _ rfl, hc 1 _ rfl, hc 2 _ rfl, hc 3 _ rfl⟩, fun V hV => hFK V (fun k hk hlt => hV.block k hlt (fun e => hk.2 (by rw [e]; rfl)))⟩
  obtain ⟨F, hF⟩ : ∃ F : Nat → List Value, ∀ i, (i < xs.length → F i = [cells.toList.getD (i * 4) .nilFunc, cells.toList.getD (i * 4 + 1) .nilFunc, cells.toList.getD (i * 4 + 2) .nilFunc, cells.toList.getD (i * 4 + 3) .nilFunc]) ∧ (¬ i < xs.length → F i = [.int .u64 0, .int .u32 0, .slice none 0 0, .int .u64 0]) :=
    ⟨fun i => if i < xs.length then [cells.toList.getD (i * 4) .nilFunc, cells.toList.getD (i * 4 + 1) .nilFunc, cells.toList.getD (i * 4 + 2) .nilFunc, cells.toList.getD (i * 4 + 3) .nilFunc] else [.int .u64 0, .int .u32 0, .slice none 0 0, .int .u64 0], fun i => ⟨fun h => if_pos h, fun h => if_neg h⟩⟩
  have hgd : ∀ k u, cells.toList[k]? = some u → cells.toList.getD k .nilFunc = u := fun k u h => by rw [List.getD_eq_getElem?_getD, h]; rfl
  have hFi : ∀ i, i < xs.length → ∃ A c, F i = [.int .u64 (xs.getD i zVer).f0.f0, .int .u32 (xs.getD i zVer).f0.f1, .slice A (xs.getD i zVer).f1.length c, .int .u64 (xs.getD i zVer).f2] ∧ ∀ V, Seq.Kpt (fun j => j = g) W V → kVer.K V (xs.getD i zVer) (F i) := by
    intro i hi
    obtain ⟨A, c, ⟨h0, h1, h2, h3⟩, hK⟩ := hget i hi
    have he : F i = [.int .u64 (xs.getD i zVer).f0.f0, .int .u32 (xs.getD i zVer).f0.f1, .slice A (xs.getD i zVer).f1.length c, .int .u64 (xs.getD i zVer).f2] := by
      rw [(hF i).1 hi, hgd _ _ h0, hgd _ _ h1, hgd _ _ h2, hgd _ _ h3]
    exact ⟨A, c, he, by rw [he]; exact hK⟩
  refine ⟨g, cap, F, cells.toList.drop (xs.length * 4), rfl, hle, hgb, hgl, ⟨?_, ?_⟩, fun i => ?_⟩
  · refine hcells.trans ?_
    congr 3
    refine Array.toList_inj.1 ?_
    rw [List.toList_toArray, flat_take cells.toList F xs.length ?_, List.take_append_drop]
    intro i hi
    obtain ⟨A, c, ⟨h0, h1, h2, h3⟩, _⟩ := hget i hi
    exact ⟨_, _, _, _, (hF i).1 hi, by rw [hgd _ _ h0]; exact h0, by rw [hgd _ _ h1]; exact h1, by rw [hgd _ _ h2]; exact h2, by rw [hgd _ _ h3]; exact h3⟩
  · intro i
    by_cases hi : i < xs.length
    · rw [(hF i).1 hi]; rfl
    · rw [(hF i).2 hi]; rfl
  · by_cases hi : i < xs.length
    · obtain ⟨A, c, h1, h2⟩ := hFi i hi
      exact ⟨⟨A, c, h1⟩, h2⟩
    · have hx : xs.getD i zVer = zVer := by rw [List.getD_eq_getElem?_getD, List.getElem?_eq_none (by omega)]; rfl
      rw [hx, (hF i).2 hi]
      exact ⟨⟨none, 0, rfl⟩, fun V _ => k85_mk V zVer (Nat.le_refl _) (by simp [Kd.C, ReadsRow, zVer, z85])⟩
/-- What is read once it is sorted. -/
theorem enc_vers {W : World} {enc : Nat → List Value} {rest : List Value} {g : Nat} {S : List Nat} {xs : List Ver} (hE : ElV enc rest g S W) (hmax : S.length ≤ 9223372036854775807)
    (henc : ∀ i, (∃ A c, enc i = [.int .u64 (xs.getD i zVer).f0.f0, .int .u32 (xs.getD i zVer).f0.f1, .slice A (xs.getD i zVer).f1.length c, .int .u64 (xs.getD i zVer).f2]) ∧ kVer.K W (xs.getD i zVer) (enc i)) :
    kVer.C W (some ⟨g, 0, none⟩) (S.map (fun i => xs.getD i zVer)).length (S.map (fun i => xs.getD i zVer)) := by
  refine ⟨rfl, by rw [List.length_map]; exact hmax, fun _ => ⟨_, rfl, fun j p hj => ?_⟩⟩
  rw [List.getElem?_map] at hj
  obtain ⟨i, hi, rfl⟩ := Option.map_eq_some_iff.1 hj
  have hjl : j < S.length := (List.getElem?_eq_some_iff.1 hi).1
  have hcut : S = S.take j ++ i :: S.drop (j + 1) := by
    have h1 : S[j] = i := (List.getElem?_eq_some_iff.1 hi).2
    conv => lhs; rw [← List.take_append_drop j S, List.drop_eq_getElem_cons hjl, h1]
  rw [hcut] at hE
  have hcell := hE.cells (i := j) (by rw [List.length_take]; omega)
  refine ⟨enc i, hE.2 i, (henc i).2, fun k u hu => ?_⟩
  have hsz : kVer.sz = 4 := rfl
  have hk : k < 4 := by
    have := (List.getElem?_eq_some_iff.1 hu).1
    rw [hE.2 i] at this
    exact this
  rw [hsz, add_plain, hcell k hk]
  exact hu

set_option maxHeartbeats 1000000 in
theorem sortStableV_nil (A : Option Addr) (c : Nat) (cv : Value) (hcv : ∃ gc lb, cv = .func (.func gc) #[] lb) (W : World) :
    Calls Try.prog 55 #[.slice A 0 c, cv] W fun e W' => e = .returned (.tuple #[]) ∧ W' = W := by
  obtain ⟨gc, lb, rfl⟩ := hcv
  have h1 : Calls Try.prog 81 #[.slice A 0 c, .int .i64 0, .int .i64 0, .func (.func gc) #[] lb] W fun e W' => e = .returned (.tuple #[]) ∧ W' = W := by
    go_enter Try.func81, Try.ntmps81
    go_wp2_with fail
    go_loopw [8] (fun i wr => i = .int .i64 1 ∧ wr = W) (fun i _ => 0)
    case atStart => exact ⟨rfl, rfl⟩
    case round =>
      obtain ⟨rfl, rfl⟩ := hrel
      go_wp2
      go_end0
      exact ⟨rfl, rfl⟩
  have h2 : Calls Try.prog 71 #[.slice A 0 c, .int .i64 0, .func (.func gc) #[] lb] W fun e W' => e = .returned (.tuple #[]) ∧ W' = W := by
    go_enter Try.func71, Try.ntmps71
    go_wp2_with fail
    go_loopw [7, 8] (fun a b wr => a = .int .i64 0 ∧ b = .int .i64 20 ∧ wr = W) (fun i _ _ => 0)
    case atStart => exact ⟨rfl, rfl, rfl⟩
    case round =>
      obtain ⟨rfl, rfl, rfl⟩ := hrel
      go_wp2_with fail
      refine h1.mono ?_
      rintro e w5 ⟨rfl, rfl⟩
      go_wp2_with fail
      go_loopw [6] (fun a wr => a = .int .i64 20 ∧ wr = w5) (fun i _ => 0)
      case atStart => exact ⟨rfl, rfl⟩
      case round =>
        obtain ⟨rfl, rfl⟩ := hrel
        go_wp2
        go_end0
        exact ⟨rfl, rfl⟩
  go_enter Try.func55, Try.ntmps55
  go_wp2_with fail
  refine h2.mono ?_
  rintro e w5 ⟨rfl, rfl⟩
  go_wp2
  go_end0
  exact ⟨rfl, rfl⟩
end Go.Proofs.Ytghblnldokpceaa.QV
/- slices.Values, exec.Join as functions; hayloftlaw15.twice over what an iterator gives. -/
namespace Go.Proofs.Ytghblnldokpceaa.QV
open Go.RowKit Go.Proofs.YtghblnldokpceaaW.PrintWords Go.Proofs.Ytghblnldokpceaa.Seq Go.Shelf Go.Proofs.Ytghblnldokpceaa.Op
set_option linter.unusedVariables false
set_option linter.unusedSimpArgs false
attribute [local go_sem] Oper.semAt_some

theorem values_is (A : Option Addr) (xs : List Row) (c : Nat) (w : World) (hr : kRows.C w A xs.length xs) :
    Calls Try.prog 13 #[.slice A xs.length c] w fun e w' => ∃ v, e = .returned v ∧ IsSeq w' v xs ∧ Below w.heap.size w w' := by
  refine (values_any (.slice A xs.length c) ⟨_, _, _, rfl⟩ w).mono ?_
  rintro e w' ⟨rfl, hw'⟩
  have hb : Below w.heap.size w w' := by rw [hw']; exact below_alloc (Below.refl _ _) _
  refine ⟨_, rfl, ⟨_, _, RdOld w', rfl, fun args w => rfl, values_seq A xs c w.heap.size w' ?_ ?_ (Kd.C_below hr hb), fun A B N x vs h hk => h.kept hk, fun A N x vs h => ?_⟩, hb⟩
  · rw [hw']; simp
  · rw [hw']; exact blk_cell (blk_new _ _) 0
  · obtain ⟨_, hA, Ad, c, rfl, hle, hC⟩ := h
    exact ⟨Ad, c, rfl, hle, Kd.C_below hC hA⟩

/-- An iterator's value whose rows are its consumer's own. -/
def IsOwn (w : World) (sv : Value) (xs : List Row) : Prop := ∃ g lb, sv = .func (.func g) #[] lb ∧ (∀ args w, (callFunc g args).run Try.prog w = .ok (.enter g args) w) ∧ SeqOf Try.prog g lb (RdNew w) xs w
theorem IsOwn.seq {w : World} {sv : Value} {xs : List Row} (h : IsOwn w sv xs) : IsSeq w sv xs := by
  obtain ⟨g, lb, h1, h2, h3⟩ := h
  exact ⟨g, lb, RdNew w, h1, h2, h3, fun A B N x vs h hk => h.kept hk, fun A N x vs h => h.reads⟩

set_option maxHeartbeats 1000000 in
theorem join_is (left right : List Row) (lo ro : Int) (svL svR : Value) (w : World) (hL : IsSeq w svL left) (hR : IsSeq w svR right)
    (hbR : ∀ x ∈ right, x.length ≤ 1048576) (hbL : ∀ x ∈ left, x.length ≤ 1048576) (hnR : right.length ≤ 1048576) :
    Calls Try.prog 12 #[svL, svR, .int .i64 lo, .int .i64 ro] w fun e w' => ∃ v, e = .returned v ∧ IsOwn w' v (joinL left right lo ro) ∧ Below w.heap.size w w' := by
  have HL := Lib.hid hL
  have HR := Lib.hid hR
  obtain ⟨gL, lbL, RdL, rfl, qL⟩ := hL
  obtain ⟨gR, lbR, RdR, rfl, qR⟩ := hR
  have hL : IsSeq w (.func (.func gL) #[] lbL) left := ⟨gL, lbL, RdL, rfl, qL⟩
  have hR : IsSeq w (.func (.func gR) #[] lbR) right := ⟨gR, lbR, RdR, rfl, qR⟩
  clear qL qR HL HR
  go_enter Try.func12, Try.ntmps12
  go_wp2
  go_ret
  obtain ⟨w', hw'⟩ : ∃ w', (((w.alloc (.cells #[.func (.func gL) #[] lbL] 28)).alloc (.cells #[.func (.func gR) #[] lbR] 28)).alloc (.cells #[.int .i64 lo] 3)).alloc (.cells #[.int .i64 ro] 3) = w' := ⟨_, rfl⟩
  rw [hw']
  have hb : Below w.heap.size w w' := by rw [← hw']; exact below_alloc (below_alloc (below_alloc (below_alloc (Below.refl _ _) _) _) _) _
  have g0 : w'.heap[w.heap.size]? = some (.cells #[.func (.func gL) #[] lbL] 28 (0, 0)) := by rw [← hw']; exact blk_alloc (blk_alloc (blk_alloc (blk_new _ _) _) _) _
  have g1 : w'.heap[w.heap.size + 1]? = some (.cells #[.func (.func gR) #[] lbR] 28 (0, 0)) := by
    have := blk_new (w.alloc (.cells #[.func (.func gL) #[] lbL] 28)) (.cells #[.func (.func gR) #[] lbR] 28)
    rw [World.size_alloc] at this
    rw [← hw']; exact blk_alloc (blk_alloc this _) _
  have g2 : w'.heap[w.heap.size + 2]? = some (.cells #[.int .i64 lo] 3 (0, 0)) := by
    have := blk_new ((w.alloc (.cells #[.func (.func gL) #[] lbL] 28)).alloc (.cells #[.func (.func gR) #[] lbR] 28)) (.cells #[.int .i64 lo] 3)
    rw [World.size_alloc, World.size_alloc] at this
    rw [← hw']; exact blk_alloc this _
  have g3 : w'.heap[w.heap.size + 3]? = some (.cells #[.int .i64 ro] 3 (0, 0)) := by
    have := blk_new (((w.alloc (.cells #[.func (.func gL) #[] lbL] 28)).alloc (.cells #[.func (.func gR) #[] lbR] 28)).alloc (.cells #[.int .i64 lo] 3)) (.cells #[.int .i64 ro] 3)
    rw [World.size_alloc, World.size_alloc, World.size_alloc] at this
    rw [← hw']; exact this
  exact ⟨_, rfl, ⟨_, _, rfl, fun args w => rfl, join_seq left right lo ro (.func (.func gL) #[] lbL) (.func (.func gR) #[] lbR) _ _ _ _ w' (hL.later hb) (hR.later hb) (blk_cell g1 0) (blk_cell g3 0) (blk_cell g0 0) (blk_cell g2 0) hbR hbL hnR⟩, hb⟩
end Go.Proofs.Ytghblnldokpceaa.QV
/- (exec.group).told where a count is asked. -/
namespace Go.Proofs.Ytghblnldokpceaa.QV
open Go.RowKit Go.Proofs.YtghblnldokpceaaW.PrintWords Go.Proofs.Ytghblnldokpceaa.Seq Go.Shelf Go.Proofs.Ytghblnldokpceaa.Op
set_option linter.unusedVariables false
set_option linter.unusedSimpArgs false

theorem int_any (n : Int) (w : World) : Calls Try.prog 67 #[.int .i64 n] w fun e w' => e = .returned (.agg #[.int .i64 2, .bool false, .int .i64 n, .string ⟨#[]⟩]) ∧ Below w.heap.size w w' := by
  go_enter Try.func67, Try.ntmps67
  go_wp2
  go_returns
  all_goals (first | exact ⟨rfl, below_alloc (Below.refl _ _) _⟩ | skip)

set_option maxRecDepth 100000 in
set_option maxHeartbeats 2000000 in
theorem told_count (KA : Option Addr) (kn kc : Nat) (RA : Option Addr) (xs : List Row) (rc : Nat) (col : Int) (w : World) (hr : kRows.C w RA xs.length xs) (hbd : xs.length * 40 ≤ 140737488355328) :
    Calls Try.prog 45 #[.agg #[.slice KA kn kc, .slice RA xs.length rc], .agg #[.int .i64 0, .int .i64 col]] w fun e w' => e = .returned (.agg #[.int .i64 2, .bool false, .int .i64 xs.length, .string ⟨#[]⟩]) ∧ Below w.heap.size w w' := by
  have hmax := hr.2.1
  go_enter Try.func45, Try.ntmps45
  go_wp2
  obtain ⟨w2, hw2⟩ : ∃ w2, ((w.alloc (.cells #[.slice KA kn kc, .slice RA xs.length rc] 65)).alloc (.cells #[.int .i64 0, .int .i64 col] 48)).alloc (.cells #[.int .i64 0, .bool false, .int .i64 0, .string ⟨#[]⟩] 42) = w2 := ⟨_, rfl⟩
  rw [hw2]
  have hbw : Below w.heap.size w w2 := by rw [← hw2]; exact below_alloc (below_alloc (below_alloc (Below.refl _ _) _) _) _
  have g2 : w2.heap[w.heap.size]? = some (.cells #[.slice KA kn kc, .slice RA xs.length rc] 65 (0, 0)) := by rw [← hw2]; exact blk_alloc (blk_alloc (blk_new _ _) _) _
  have g3 : w2.heap[w.heap.size + 1]? = some (.cells #[.int .i64 0, .int .i64 col] 48 (0, 0)) := by
    have := blk_new (w.alloc (.cells #[.slice KA kn kc, .slice RA xs.length rc] 65)) (.cells #[.int .i64 0, .int .i64 col] 48)
    rw [World.size_alloc] at this
    rw [← hw2]; exact blk_alloc this _
  have g4 : w2.heap[w.heap.size + 1 + 1]? = some (.cells #[.int .i64 0, .bool false, .int .i64 0, .string ⟨#[]⟩] 42 (0, 0)) := by
    have := blk_new ((w.alloc (.cells #[.slice KA kn kc, .slice RA xs.length rc] 65)).alloc (.cells #[.int .i64 0, .int .i64 col] 48)) (.cells #[.int .i64 0, .bool false, .int .i64 0, .string ⟨#[]⟩] 42)
    rw [World.size_alloc, World.size_alloc] at this
    rw [← hw2]; exact this
  clear hw2
  go_loopw [5, 15] (fun l i wr => ∃ k : Nat, k ≤ xs.length ∧ i = .int .i64 k ∧ (∃ lst : Row, lst.length ≤ k ∧ kS.R tS wr w2.heap.size (fun _ => True) l lst) ∧ Below w2.heap.size w2 wr) (fun _ i _ => xs.length - (intOf i).toNat)
  case atStart => exact ⟨0, Nat.zero_le _, rfl, ⟨[], Nat.le_refl _, Kd.R_nil _ _ _ _ _⟩, Below.refl _ _⟩
  case round =>
    obtain ⟨k, hk, rfl, ⟨lst, hll, hl⟩, hB⟩ := hrel
    by_cases hlt : k < xs.length
    · have hr2 := Kd.C_below hr (hbw.trans (hB.mono hbw.size))
      obtain ⟨ad, cs, rfl, _, hK, hcs⟩ := Kd.C_get hr2 [] k (by omega) (by omega)
      obtain ⟨Ao, co, rfl, hleo, hCo⟩ := hK
      have hx : xs.getD (k : Int).toNat [] = xs.getD k [] := rfl
      rw [hx] at hleo hCo hcs
      have hc0 := hcs 0 _ rfl
      have hsz : kRows.sz = 1 := rfl
      rw [hsz, Int.toNat_natCast, Nat.mul_one, Nat.add_zero] at hc0
      generalize xs.getD k [] = x at *
      have ha := at_f x col
      generalize (atS x col).f0 = q0, (atS x col).f1 = q1, (atS x col).f2 = q2, (atS x col).f3 = q3 at ha
      have h31 := blk_cell (blk_below g3 hB) 1
      go_wp2_with fail
      refine (exec_at.calls Ao co x col _ _ _ _ wr hCo hleo ha).mono ?_
      rintro e W4 ⟨rfl, hb4⟩
      have hB4 : Below w2.heap.size w2 W4 := hB.trans (hb4.mono hB.size)
      have h30 := blk_cell (blk_alloc (blk_below g3 hB4) (.cells #[.int .i64 q0, .bool q1, .int .i64 q2, .string q3] 42)) 0
      have hl4 := Kd.R_below hl hb4
      by_cases hz : q0 = 0
      · subst hz
        go_wp2_with fail
        go_roundw
        case rel => exact ⟨k + 1, by omega, by go_num, ⟨lst, by omega, Kd.R_alloc hl4 _⟩, below_alloc hB4 _⟩
        case measure => simp [intOf]; omega
      · go_wp2_with (at_builtin; refine Kd.R_append kS (w0 := w2) w2.heap.size rfl (.tmp 36) (.tmp 38) 31 42 _ 40 rfl Try.underlying31 infoS rfl (by decide) (by decide) _ lst ⟨q0, q1, q2, q3⟩ [.int .i64 q0, .bool q1, .int .i64 q2, .string q3] (fun _ => True) (fun _ => False) rfl (slice_alloc _ _ _ _) (k42_mkM _ _ _ _) (fun _ h => h.elim) (fun _ _ => trivial) (Kd.R_alloc hl4 _) (below_alloc hB4 _) (by have := hB4.size; simp; omega) (by omega) ?_; intro v1 w1 hv1 hB1 hg1 hat1)
        go_roundw
        case rel => exact ⟨k + 1, by omega, by go_num, ⟨_, by simp; omega, hv1⟩, hB1⟩
        case measure => simp [intOf]; omega
    · obtain rfl : k = xs.length := by omega
      have h30 := blk_cell (blk_below g3 hB) 0
      have h21 := blk_cell (blk_below g2 hB) 1
      go_wp2_with fail
      refine (int_any _ _).mono ?_
      rintro e W5 ⟨rfl, hb5⟩
      have hB5 : Below w2.heap.size w2 W5 := hB.trans (hb5.mono hB.size)
      have hx4 := blk_below g4 hB5
      have n0 := blk_cell hx4 0
      have n1 := blk_cell hx4 1
      have n2 := blk_cell hx4 2
      have n3 := blk_cell hx4 3
      have m0 := blk_frozen hx4 0
      have m1 := blk_frozen hx4 1
      have m2 := blk_frozen hx4 2
      have m3 := blk_frozen hx4 3
      go_wp2_with fail
      refine bodyPost_ret (results_cell_row rfl _ _ (w.heap.size + 1 + 1) 42 #[.int .i64 2, .bool false, .int .i64 xs.length, .string ⟨#[]⟩] (0, 0) _ rfl (by have := blk_set (blk_set (blk_set (blk_set hx4 0 (.int .i64 2)) 1 (.bool false)) 2 (.int .i64 xs.length)) 3 (.string ⟨#[]⟩); simpa using this) Try.underlying42 rfl rfl) rfl ?_
      refine ⟨rfl, hbw.trans ((hB5.mono hbw.size).trans ?_)⟩
      have hk : ∀ (V : World) (j : Nat) (u : Value), Kpt (fun i => i = w.heap.size + 1 + 1) V (V.setCell ⟨w.heap.size + 1 + 1, j, none⟩ u) := fun V j u => Kpt.setCell V ⟨w.heap.size + 1 + 1, j, none⟩ u
      exact ((((hk _ _ _).trans (hk _ _ _) (fun _ _ h => h.elim id id)).trans (hk _ _ _) (fun _ _ h => h.elim id id)).trans (hk _ _ _) (fun _ _ h => h.elim id id)).below (by have := hbw.size; have := hB5.size; omega) (fun i _ e => by omega)
end Go.Proofs.Ytghblnldokpceaa.QV
/- The search for a group, of one group without a key. -/
namespace Go.Proofs.Ytghblnldokpceaa.QV
open Go.RowKit Go.Proofs.YtghblnldokpceaaW.PrintWords Go.Proofs.Ytghblnldokpceaa.Seq Go.Shelf Go.Proofs.Ytghblnldokpceaa.Op
set_option linter.unusedVariables false
set_option linter.unusedSimpArgs false

theorem cmpG_any (KA : Option Addr) (key : Row) (kc : Nat) (RA : Option Addr) (rn rc : Nat) (B : Option Addr) (k : Row) (bc : Nat) (w : World) (hk : kS.C w KA key.length key) (hkc : key.length ≤ kc) (hb : kS.C w B k.length k) (hbc : k.length ≤ bc) :
    Calls Try.prog 42 #[.agg #[.slice KA key.length kc, .slice RA rn rc], .slice B k.length bc] w fun e w' => e = .returned (.int .i64 (rowsV (key.map toV) (k.map toV))) ∧ Below w.heap.size w w' := by
  go_enter Try.func42, Try.ntmps42
  go_wp2_with fail
  refine (value_Rows.calls KA kc key B bc k _ _ (Kd.C_alloc hk _) hkc (Kd.C_alloc hb _) hbc rfl).mono ?_
  rintro e w1 ⟨rfl, hb1⟩
  go_wp2_with fail
  go_ret
  exact ⟨rfl, (below_alloc (Below.refl _ _) _).trans (hb1.mono (by simp))⟩

theorem search_one (g cap : Nat) (RA : Option Addr) (rn rc : Nat) (B : Option Addr) (bc : Nat) (w : World) (h0 : w.cell? ⟨g, 0, none⟩ = some (.slice none 0 0)) (h1 : w.cell? ⟨g, 1, none⟩ = some (.slice RA rn rc)) (hB : kS.C w B 0 []) :
    Calls Try.prog 41 #[.slice (some ⟨g, 0, none⟩) 1 cap, .slice B 0 bc, .func (.func 42) #[] #[]] w fun e w' => e = .returned (.tuple #[.int .i64 0, .bool true]) ∧ Below w.heap.size w w' := by
  go_enter Try.func41, Try.ntmps41
  go_wp2_with fail
  go_loopw [9, 10] (fun i j wr => i = .int .i64 0 ∧ (∃ m : Nat, m ≤ 1 ∧ j = .int .i64 m) ∧ Below w.heap.size w wr) (fun _ j _ => (intOf j).toNat)
  case atStart => exact ⟨rfl, ⟨1, by omega, rfl⟩, Below.refl _ _⟩
  case round =>
    obtain ⟨rfl, ⟨m, hm, rfl⟩, hBw⟩ := hrel
    have h0' := pw_cell_below hBw h0
    have h1' := pw_cell_below hBw h1
    rcases (by omega : m = 0 ∨ m = 1) with rfl | rfl
    · go_wp2_with fail
      refine (cmpG_any none [] 0 RA rn rc B [] bc _ (by simp [Kd.C, ReadsRow]) (by simp) (Kd.C_below hB hBw) (by simp)).mono ?_
      rintro e w1 ⟨rfl, hb1⟩
      go_wp2_with fail
      go_ret2
      exact ⟨rfl, hBw.trans (hb1.mono hBw.size)⟩
    · go_wp2_with fail
      refine (cmpG_any none [] 0 RA rn rc B [] bc _ (by simp [Kd.C, ReadsRow]) (by simp) (Kd.C_below hB hBw) (by simp)).mono ?_
      rintro e w1 ⟨rfl, hb1⟩
      have hr0 : rowsV (([] : Row).map toV) (([] : Row).map toV) = 0 := by simp [rowsV]
      rw [hr0]
      go_wp2_with fail
      go_roundw
      case rel => exact ⟨rfl, ⟨0, by omega, by go_num⟩, hBw.trans (hb1.mono hBw.size)⟩
      case measure => simp [intOf]
end Go.Proofs.Ytghblnldokpceaa.QV
