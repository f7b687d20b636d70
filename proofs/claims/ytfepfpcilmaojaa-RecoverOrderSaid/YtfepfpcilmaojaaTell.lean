/- What a map of versions told is, as a list: by sorted names; and that there is but one such list. -/
import Derived.Test.YtfepfpcilmaojaaChanges
import Derived.Test.YtfepfpcilmaojaaMerged
import Derived.Test.YtfepfpcilmaojaaMissing
namespace Go.Proofs.Ytfepfpcilmaojaa.QV
open Go.RowKit Go.Proofs.YtfepfpcilmaojaaW.PrintWords Go.Proofs.Ytfepfpcilmaojaa.Mp
set_option linter.unusedVariables false
set_option linter.unusedSimpArgs false
def insN (k : Nm) : List Nm → List Nm
  | [] => [k]
  | a :: l => if cmpNm k a < 0 then k :: a :: l else if k = a then a :: l else a :: insN k l
/-- Names, each once, rising. -/
def nmsL (l : List Nm) : List Nm := l.foldr insN []
theorem insN_mem (k x : Nm) (l : List Nm) : x ∈ insN k l ↔ x = k ∨ x ∈ l := by
  induction l with
  | nil => simp [insN]
  | cons a l ih =>
    unfold insN
    split
    · simp
    · split
      · rename_i h; subst h; simp
      · simp only [List.mem_cons, ih]
        constructor
        · rintro (h | h | h)
          · exact .inr (.inl h)
          · exact .inl h
          · exact .inr (.inr h)
        · rintro (h | h | h)
          · exact .inr (.inl h)
          · exact .inl h
          · exact .inr (.inr h)
theorem insN_len (k : Nm) (l : List Nm) : (insN k l).length ≤ l.length + 1 := by
  induction l with
  | nil => simp [insN]
  | cons a l ih =>
    unfold insN
    split
    · simp
    · split
      · simp
      · simp only [List.length_cons]; omega
theorem insN_sorted (k : Nm) (l : List Nm) (h : l.Pairwise (fun a b => cmpNm a b < 0)) : (insN k l).Pairwise (fun a b => cmpNm a b < 0) := by
  induction l with
  | nil => simp [insN]
  | cons a l ih =>
    obtain ⟨h1, h2⟩ := List.pairwise_cons.1 h
    unfold insN
    split
    · rename_i hk
      refine List.pairwise_cons.2 ⟨fun b hb => ?_, h⟩
      rcases List.mem_cons.1 hb with rfl | hb
      · exact hk
      · have := h1 b hb
        rw [cmpNm_neg] at *
        omega
    · split
      · exact h
      · rename_i hk hne
        refine List.pairwise_cons.2 ⟨fun b hb => ?_, ih h2⟩
        rcases (insN_mem k b l).1 hb with rfl | hb
        · have hne' : ¬ (b.f0 = a.f0 ∧ b.f1 = a.f1) := fun h => hne (Nm.ext' h.1 h.2)
          rw [cmpNm_neg] at *
          omega
        · exact h1 b hb
theorem nmsL_mem (x : Nm) (l : List Nm) : x ∈ nmsL l ↔ x ∈ l := by
  induction l with
  | nil => simp [nmsL]
  | cons a l ih =>
    show x ∈ insN a (nmsL l) ↔ _
    rw [insN_mem, ih, List.mem_cons]
theorem nmsL_len (l : List Nm) : (nmsL l).length ≤ l.length := by
  induction l with
  | nil => simp [nmsL]
  | cons a l ih =>
    show (insN a (nmsL l)).length ≤ _
    have := insN_len a (nmsL l)
    simp only [List.length_cons]; omega
theorem nmsL_sorted (l : List Nm) : (nmsL l).Pairwise (fun a b => cmpNm a b < 0) := by
  induction l with
  | nil => simp [nmsL]
  | cons a l ih => exact insN_sorted a _ ih
/-- The map told. -/
def toldL (F : Nm → Option Ver) (ks : List Nm) : List Ver := (nmsL ks).filterMap F
theorem toldL_is (F : Nm → Option Ver) (ks : List Nm) (hFk : ∀ k x, F k = some x → x.f0 = k) (hok : ∀ k ∈ ks, Nok k) (hks : ∀ k, (F k).isSome = true → k ∈ ks) : IsTold F (toldL F ks) := by
  refine ⟨?_, ?_, ?_⟩
  · unfold toldL
    rw [List.pairwise_filterMap]
    refine (nmsL_sorted ks).imp ?_
    intro a b h x hx y hy
    rw [hFk a x hx, hFk b y hy]; exact h
  · intro x hx
    obtain ⟨k, hk, hx⟩ := List.mem_filterMap.1 hx
    have := hFk k x hx
    subst this
    exact ⟨hok _ ((nmsL_mem _ _).1 hk), hx⟩
  · intro k hk hs
    obtain ⟨x, hx⟩ := Option.isSome_iff_exists.1 hs
    exact ⟨x, List.mem_filterMap.2 ⟨k, (nmsL_mem _ _).2 (hks k hs), hx⟩, hFk k x hx⟩
theorem sorted_eq {α : Type} {r : α → α → Prop} (irr : ∀ a b, r a b → ¬ r b a) : ∀ (L M : List α), L.Pairwise r → M.Pairwise r → (∀ x, x ∈ L ↔ x ∈ M) → L = M
  | [], [], _, _, _ => rfl
  | [], b :: M, _, _, h => absurd ((h b).2 (by simp)) (by simp)
  | a :: L, [], _, _, h => absurd ((h a).1 (by simp)) (by simp)
  | a :: L, b :: M, h1, h2, h => by
    obtain ⟨p1, q1⟩ := List.pairwise_cons.1 h1
    obtain ⟨p2, q2⟩ := List.pairwise_cons.1 h2
    have e : a = b := by
      rcases List.mem_cons.1 ((h a).1 (by simp)) with e | ha
      · exact e
      · rcases List.mem_cons.1 ((h b).2 (by simp)) with e | hb
        · exact e.symm
        · exact absurd (p2 a ha) (irr _ _ (p1 b hb))
    subst e
    congr 1
    refine sorted_eq irr L M q1 q2 fun x => ?_
    have hx := h x
    rw [List.mem_cons, List.mem_cons] at hx
    constructor
    · intro hl
      rcases hx.1 (.inr hl) with e | hm
      · subst e; exact absurd (p1 x hl) (irr _ _ (p1 x hl))
      · exact hm
    · intro hm
      rcases hx.2 (.inr hm) with e | hl
      · subst e; exact absurd (p2 x hm) (irr _ _ (p2 x hm))
      · exact hl
theorem told_eq {F : Nm → Option Ver} {L M : List Ver} (h : IsTold F L) (k : IsTold F M) : L = M := by
  refine sorted_eq (r := fun a b => cmpNm a.f0 b.f0 < 0) (fun a b h => by rw [cmpNm_neg] at *; omega) L M h.1 k.1 fun x => ?_
  have one : ∀ {L M : List Ver}, IsTold F L → IsTold F M → x ∈ L → x ∈ M := fun {L M} h k hx => by
    obtain ⟨h1, h2⟩ := h.2.1 x hx
    obtain ⟨y, hy, e⟩ := k.2.2 x.f0 h1 (by rw [h2]; rfl)
    have := (k.2.1 y hy).2
    rw [e, h2] at this
    cases this
    exact hy
  exact ⟨one h k, one k h⟩
def nokB (k : Nm) : Bool := (Lit.int .u64 k.f0).wf && (Lit.int .u32 k.f1).wf
theorem nokB_iff (k : Nm) : nokB k = true ↔ Nok k := by unfold nokB Nok; rw [Bool.and_eq_true]
/-- What is asked of versions. -/
def okV (l : List Ver) : Bool := l.all (fun x => nokB x.f0 && decide (x.f1.length * 40 ≤ 140737488355328)) && decide (l.length * 48 ≤ 140737488355328)
theorem okV_iff (l : List Ver) : okV l = true ↔ (∀ x ∈ l, Nok x.f0) ∧ (∀ x ∈ l, x.f1.length * 40 ≤ 140737488355328) ∧ l.length * 48 ≤ 140737488355328 := by
  unfold okV
  rw [Bool.and_eq_true, List.all_eq_true, decide_eq_true_iff]
  simp only [Bool.and_eq_true, decide_eq_true_iff, nokB_iff]
  exact ⟨fun h => ⟨fun x hx => (h.1 x hx).1, fun x hx => (h.1 x hx).2, h.2⟩, fun h => ⟨fun x hx => ⟨h.1 x hx, h.2.1 x hx⟩, h.2.2⟩⟩
theorem uptoF_f0 (l : List Ver) (ep : Int) (k : Nm) (x : Ver) (h : uptoF l ep k = some x) : x.f0 = k := by
  unfold uptoF at h
  split at h
  · cases h
  · obtain ⟨y, hy, rfl⟩ := Option.map_eq_some_iff.1 h
    rw [asOf_f0]; exact firstOf_f0 l k y hy
theorem firstOf_names (l : List Ver) (k : Nm) (h : (firstOf l k).isSome = true) : k ∈ l.map (·.f0) := by
  obtain ⟨x, hx⟩ := Option.isSome_iff_exists.1 h
  exact List.mem_map.2 ⟨x, firstOf_mem l k x hx, firstOf_f0 l k x hx⟩
theorem uptoF_names (l : List Ver) (ep : Int) (k : Nm) (h : (uptoF l ep k).isSome = true) : k ∈ l.map (·.f0) := by
  unfold uptoF at h
  split at h
  · cases h
  · exact firstOf_names l k (by simpa using h)
theorem mergedF_names (l m : List Ver) (k : Nm) (h : (mergedF l m k).isSome = true) : k ∈ l.map (·.f0) ++ m.map (·.f0) := by
  rw [List.mem_append]
  cases h1 : firstOf l k with
  | some x => exact .inl (firstOf_names l k (by rw [h1]; rfl))
  | none =>
    refine .inr (firstOf_names m k ?_)
    unfold mergedF at h
    rw [h1] at h
    cases h2 : firstOf m k with
    | none => rw [h2] at h; cases h
    | some y => rfl
def uptoL (l : List Ver) (ep : Int) : List Ver := toldL (uptoF l ep) (l.map (·.f0))
def changesL (l : List Ver) (since ep : Int) : List Ver := (uptoL l ep).filter (fun x => !oldP since x)
def mergedL (l m : List Ver) : List Ver := toldL (mergedF l m) (l.map (·.f0) ++ m.map (·.f0))
theorem uptoL_is (l : List Ver) (ep : Int) (h : ∀ x ∈ l, Nok x.f0) : IsTold (uptoF l ep) (uptoL l ep) :=
  toldL_is _ _ (uptoF_f0 l ep) (fun k hk => by obtain ⟨x, hx, rfl⟩ := List.mem_map.1 hk; exact h x hx) (uptoF_names l ep)
theorem mergedL_is (l m : List Ver) (h : ∀ x ∈ l, Nok x.f0) (h' : ∀ x ∈ m, Nok x.f0) : IsTold (mergedF l m) (mergedL l m) :=
  toldL_is _ _ (mergedF_f0 l m) (fun k hk => by
    rcases List.mem_append.1 hk with hk | hk
    · obtain ⟨x, hx, rfl⟩ := List.mem_map.1 hk; exact h x hx
    · obtain ⟨x, hx, rfl⟩ := List.mem_map.1 hk; exact h' x hx) (mergedF_names l m)
end Go.Proofs.Ytfepfpcilmaojaa.QV
