/- The plain law of RecoverOrder. -/
import Derived.Test.YtfepfpcilmaojaaQVx6
import Derived.Test.YtfepfpcilmaojaaLMissing
namespace Go.Proofs.Ytfepfpcilmaojaa.QV
open Go.RowKit Go.Proofs.YtfepfpcilmaojaaW.PrintWords Go.Proofs.Ytfepfpcilmaojaa.Mp
set_option linter.unusedVariables false
set_option linter.unusedSimpArgs false
theorem rdVer (l : List Ver) (i : Nat) : rd_T34 l (i : Int) = l.getD i z34 := rfl
def hasN (l : List Ver) (k : Nm) : Bool := l.any (fun v => decide (v.f0 = k))
theorem place_l0 (l : List Ver) (hl : l.length < 9223372036854775807) (k : Nm) : ∀ (n i : Nat), i + n = l.length → ∃ p, hayloftref10_Place.l0 (n + 1) l i k.f0 k.f1 = some p ∧ (p < 0 ↔ hasN (l.drop i) k = false) := by
  intro n
  induction n with
  | zero =>
    intro i hi
    rw [Nat.add_zero] at hi
    subst hi
    rw [hayloftref10_Place.l0, if_neg (by omega), List.drop_length]
    exact ⟨-1, rfl, by simp [hasN]⟩
  | succ n ih =>
    intro i hi
    have hil : i < l.length := by omega
    have hw : wrap64 ((i : Int) + 1) = ((i + 1 : Nat) : Int) := by rw [wrap_succ i (by omega)]; rfl
    have hg : rd_T34 l (i : Int) = l[i] := by rw [rdVer, List.getD_eq_getElem?_getD, List.getElem?_eq_getElem hil]; rfl
    rw [hayloftref10_Place.l0, if_pos (by omega), if_pos (Int.natCast_nonneg i), hw, hg, List.drop_eq_getElem_cons hil]
    have hh : hasN (l[i] :: l.drop (i + 1)) k = (decide (l[i].f0 = k) || hasN (l.drop (i + 1)) k) := rfl
    rw [hh]
    have hd : (l[i].f0.f0 == k.f0 && (l[i].f0.f1 == k.f1)) = decide (l[i].f0 = k) := by
      by_cases e : l[i].f0 = k
      · rw [e]; simp
      · have : ¬ (l[i].f0.f0 = k.f0 ∧ l[i].f0.f1 = k.f1) := fun h => e (Nm.ext' h.1 h.2)
        simp only [e, decide_false]
        rw [Bool.and_eq_false_iff, beq_eq_false_iff_ne, beq_eq_false_iff_ne]
        omega
    rw [hd]
    cases he : decide (l[i].f0 = k)
    · rw [if_neg (by simp)]
      obtain ⟨p, h1, h2⟩ := ih (i + 1) (by omega)
      exact ⟨p, h1, by simpa using h2⟩
    · rw [if_pos rfl]
      exact ⟨i, rfl, by simp⟩
theorem place_f (l : List Ver) (hl : l.length < 9223372036854775807) (k : Nm) (m : Nat) (hm : l.length + 1 ≤ m) : ∃ p, hayloftref10_Place.f m l k.f0 k.f1 = some p ∧ (p < 0 ↔ hasN l k = false) := by
  obtain ⟨p, h1, h2⟩ := place_l0 l hl k l.length 0 (by omega)
  rw [List.drop_zero] at h2
  exact ⟨p, lift' (f := fun m => hayloftref10_Place.f m l k.f0 k.f1) (fun m => hayloftref10_Place.mono _ _ _ m) (k := l.length + 1) h1 hm, h2⟩
/-- The first of each name. -/
def dd : List Ver → List Ver → List Ver
  | a, [] => a
  | a, x :: r => if hasN a x.f0 = true then dd a r else dd (a ++ [x]) r
theorem dd_len : ∀ (l a : List Ver), (dd a l).length ≤ a.length + l.length
  | [], a => by simp [dd]
  | x :: r, a => by
    unfold dd
    split
    · have := dd_len r a; simp only [List.length_cons]; omega
    · have := dd_len r (a ++ [x]); simp only [List.length_cons, List.length_append, List.length_nil] at this ⊢; omega
theorem dd_mem : ∀ (l a : List Ver) (x : Ver), x ∈ dd a l → x ∈ a ∨ x ∈ l
  | [], a, x, h => .inl h
  | y :: r, a, x, h => by
    unfold dd at h
    split at h
    · exact (dd_mem r a x h).imp id (fun h => List.mem_cons_of_mem _ h)
    · rcases dd_mem r (a ++ [y]) x h with h | h
      · rcases List.mem_append.1 h with h | h
        · exact .inl h
        · rw [List.mem_singleton] at h; subst h; exact .inr (List.mem_cons_self ..)
      · exact .inr (List.mem_cons_of_mem _ h)
theorem hasN_first (a : List Ver) (k : Nm) : hasN a k = (firstOf a k).isSome := by
  unfold hasN firstOf
  rw [Bool.eq_iff_iff, List.any_eq_true, List.find?_isSome]
theorem dd_first : ∀ (l a : List Ver), firstOf (dd a l) = firstOf (a ++ l)
  | [], a => by rw [List.append_nil]; rfl
  | x :: r, a => by
    unfold dd
    split
    · rename_i h
      rw [dd_first r a]
      have := firstOf_snoc a x
      funext k
      have h1 : firstOf (a ++ [x]) k = firstOf a k := by rw [this, if_pos (by rw [← hasN_first]; exact h)]
      unfold firstOf at h1 ⊢
      rw [List.append_cons, List.find?_append, List.find?_append (xs := a ++ [x]), h1]
    · rw [dd_first r (a ++ [x]), List.append_assoc]; rfl
theorem dd_one : ∀ (l a : List Ver), a.Pairwise (fun x y => x.f0 ≠ y.f0) → (dd a l).Pairwise (fun x y => x.f0 ≠ y.f0)
  | [], a, h => h
  | x :: r, a, h => by
    unfold dd
    split
    · exact dd_one r a h
    · rename_i hn
      refine dd_one r (a ++ [x]) (List.pairwise_append.2 ⟨h, by simp, fun y hy z hz => ?_⟩)
      rw [List.mem_singleton] at hz
      subst hz
      intro e
      refine hn ?_
      unfold hasN
      rw [List.any_eq_true]
      exact ⟨y, hy, by simpa using e⟩
theorem first_iff (l : List Ver) (h : l.Pairwise (fun x y => x.f0 ≠ y.f0)) (k : Nm) (x : Ver) : firstOf l k = some x ↔ x ∈ l ∧ x.f0 = k := by
  constructor
  · intro hx; exact ⟨firstOf_mem l k x hx, firstOf_f0 l k x hx⟩
  · rintro ⟨hx, rfl⟩
    induction l with
    | nil => simp at hx
    | cons y l ih =>
      obtain ⟨h1, h2⟩ := List.pairwise_cons.1 h
      unfold firstOf
      rcases List.mem_cons.1 hx with rfl | hx
      · simp
      · have := h1 x hx
        rw [List.find?_cons_of_neg (by simpa using this)]
        exact ih h2 hx
theorem first_rev (l : List Ver) (h : l.Pairwise (fun x y => x.f0 ≠ y.f0)) : firstOf l.reverse = firstOf l := by
  funext k
  refine Option.ext fun x => ?_
  rw [first_iff l h, first_iff l.reverse (by rw [List.pairwise_reverse]; exact h.imp (fun h => Ne.symm h)), List.mem_reverse]
theorem order_l0 (l : List Ver) (e1 e2 : Int) (hl : l.length < 2932031007402) (F : Nat) (hF : l.length + 1 ≤ F) : ∀ (n i : Nat) (a : List Ver), i + n = l.length → a.length ≤ i →
    hayloftlaw18_RecoverOrder.l0 (F + n + 1) l e1 e2 a l (l.length : Int) i = hayloftlaw18_RecoverOrder.l1 F l e1 e2 (dd a (l.drop i)) [] ((dd a (l.drop i)).length : Int) 0 := by
  intro n
  induction n with
  | zero =>
    intro i a hi ha
    rw [Nat.add_zero] at hi
    subst hi
    rw [hayloftlaw18_RecoverOrder.l0, if_neg (by omega), List.drop_length]
    rfl
  | succ n ih =>
    intro i a hi ha
    have hil : i < l.length := by omega
    have hw : wrap64 ((i : Int) + 1) = ((i + 1 : Nat) : Int) := by rw [wrap_succ i (by omega)]; rfl
    have hg : rd_T34 l (i : Int) = l[i] := by rw [rdVer, List.getD_eq_getElem?_getD, List.getElem?_eq_getElem hil]; rfl
    obtain ⟨p, hp, hp0⟩ := place_f a (by omega) l[i].f0 (F + (n + 1)) (by omega)
    rw [hayloftlaw18_RecoverOrder.l0, if_pos (by omega), if_pos (Int.natCast_nonneg i), if_pos (by omega), hg, hp, Option.bind_some, hw, List.drop_eq_getElem_cons hil]
    rw [show F + (n + 1) = F + n + 1 by omega]
    by_cases hn : hasN a l[i].f0 = true
    · rw [if_neg (by rw [hp0, hn]; simp), ih (i + 1) a (by omega) (by omega)]
      rw [show dd a (l[i] :: l.drop (i + 1)) = dd a (l.drop (i + 1)) by rw [dd, if_pos hn]]
    · rw [if_pos (by rw [hp0]; simpa using hn), if_pos (by omega)]
      rw [show dd a (l[i] :: l.drop (i + 1)) = dd (a ++ [l[i]]) (l.drop (i + 1)) by rw [dd, if_neg hn]]
      exact ih (i + 1) (a ++ [l[i]]) (by omega) (by simp; omega)
theorem order_l1 (l : List Ver) (e1 e2 : Int) (a : List Ver) (ha : a.length < 2932031007402) (F : Nat) : ∀ (n i : Nat) (b : List Ver), i + n = a.length → b.length ≤ i →
    hayloftlaw18_RecoverOrder.l1 (F + n + 1) l e1 e2 a b (a.length : Int) i = hayloftlaw18_RecoverOrder.l1 (F + 1) l e1 e2 a (b ++ a.reverse.drop i) (a.length : Int) (a.length : Int) := by
  intro n
  induction n with
  | zero =>
    intro i b hi hb
    rw [Nat.add_zero] at hi
    subst hi
    rw [show a.reverse.drop a.length = [] by rw [List.drop_eq_nil_iff]; simp, List.append_nil]
  | succ n ih =>
    intro i b hi hb
    have hil : i < a.length := by omega
    have hw : wrap64 ((i : Int) + 1) = ((i + 1 : Nat) : Int) := by rw [wrap_succ i (by omega)]; rfl
    have hx : wrap64 (wrap64 ((a.length : Int) - 1) - i) = ((a.length - 1 - i : Nat) : Int) := by
      have h1 : wrap64 ((a.length : Int) - 1) = (a.length : Int) - 1 := by unfold wrap64; omega
      rw [h1]
      have h2 : wrap64 ((a.length : Int) - 1 - i) = (a.length : Int) - 1 - i := by unfold wrap64; omega
      rw [h2]; omega
    have hlt : a.length - 1 - i < a.length := by omega
    have hg : rd_T34 a ((a.length - 1 - i : Nat) : Int) = a.reverse[i]'(by simpa using hil) := by
      rw [rdVer, List.getD_eq_getElem?_getD, List.getElem?_eq_getElem hlt, List.getElem_reverse]; rfl
    rw [show F + (n + 1) + 1 = (F + n + 1) + 1 by omega]
    conv => lhs; rw [hayloftlaw18_RecoverOrder.l1]
    rw [if_pos (by omega), hx, if_pos (Int.natCast_nonneg _), if_pos (by omega), if_pos (by omega), hw, hg]
    rw [List.drop_eq_getElem_cons (l := a.reverse) (by simpa using hil)]
    have hi := ih (i + 1) (b ++ [a.reverse[i]'(by simpa using hil)]) (by omega) (by rw [List.length_append, List.length_singleton]; omega)
    rw [List.append_assoc] at hi
    exact hi
theorem okV_sub {l m : List Ver} (h : okV l = true) (hm : ∀ x ∈ m, x ∈ l) (hl : m.length ≤ l.length) : okV m = true := by
  obtain ⟨h1, h2, h3⟩ := (okV_iff l).1 h
  exact (okV_iff m).2 ⟨fun x hx => h1 x (hm x hx), fun x hx => h2 x (hm x hx), by omega⟩
theorem nms_le (ks : List Nm) (L : List Nm) (h : ∀ k ∈ ks, k ∈ L) : (nmsL ks).length ≤ L.length := by
  refine Mp.nodup_le ?_ (fun x hx => h x ((nmsL_mem x ks).1 hx))
  refine (nmsL_sorted ks).imp ?_
  intro a b hab e
  subst e
  rw [cmpNm_neg] at hab
  omega
theorem pureROrder (l : List Ver) (e1 e2 : Int) (h : okV l = true) (hbl : l.length * 48 ≤ 140737488351232) : ∃ k, hayloftlaw18_RecoverOrder.f k l e1 e2 = some true := by
  obtain ⟨h1, h2, h3⟩ := (okV_iff l).1 h
  obtain ⟨a, ha⟩ : ∃ a, dd [] l = a := ⟨_, rfl⟩
  have hone : a.Pairwise (fun x y => x.f0 ≠ y.f0) := by rw [← ha]; exact dd_one l [] (by simp)
  have hfa : firstOf a = firstOf l := by rw [← ha, dd_first]; rfl
  have hfb : firstOf a.reverse = firstOf l := by rw [first_rev a hone, hfa]
  have hal : a.length ≤ l.length := by have := dd_len l []; rw [ha] at this; simpa using this
  have hma : ∀ x ∈ a, x ∈ l := fun x hx => by rw [← ha] at hx; exact (dd_mem l [] x hx).elim (fun h => by simp at h) id
  have hka : okV a = true := okV_sub h hma hal
  have hkb : okV a.reverse = true := okV_sub h (fun x hx => hma x (List.mem_reverse.1 hx)) (by simpa using hal)
  obtain ⟨a1, a2, a3⟩ := (okV_iff a).1 hka
  obtain ⟨b1, b2, b3⟩ := (okV_iff a.reverse).1 hkb
  have hU : uptoL a.reverse e2 = uptoL a e2 := by
    have : uptoF a.reverse e2 = uptoF a e2 := by funext k; unfold uptoF; rw [hfa, hfb]
    exact told_eq (this ▸ uptoL_is a.reverse e2 b1) (uptoL_is a e2 a1)
  have hM : mergedL a.reverse a = mergedL a l := by
    have : mergedF a.reverse a = mergedF a l := by funext k; unfold mergedF; rw [hfa, hfb]
    exact told_eq (this ▸ mergedL_is a.reverse a b1 a1) (mergedL_is a l a1 h1)
  have hin : ∀ k ∈ l.map (·.f0), k ∈ a.map (·.f0) := fun k hk => by
    obtain ⟨x, hx, rfl⟩ := List.mem_map.1 hk
    refine firstOf_names a x.f0 ?_
    rw [hfa, ← hasN_first]
    unfold hasN
    rw [List.any_eq_true]
    exact ⟨x, hx, by simp⟩
  have hln : (a.map (fun x : Ver => x.f0)).length = a.length := List.length_map ..
  have hn1 : (nmsL (a.map (·.f0) ++ l.map (·.f0))).length ≤ a.length := by
    rw [← hln]
    exact nms_le _ _ (fun k hk => (List.mem_append.1 hk).elim id (hin k))
  have hn2 : (nmsL (a.reverse.map (·.f0) ++ a.map (·.f0))).length ≤ a.length := by
    rw [← hln]
    exact nms_le _ _ (fun k hk => (List.mem_append.1 hk).elim (fun h => by rw [List.map_reverse, List.mem_reverse] at h; exact h) id)
  have hUl : (uptoL a e2).length ≤ a.length := by
    have := toldL_len (uptoF a e2) (a.map (·.f0))
    have h2 := nmsL_len (a.map (·.f0))
    rw [List.length_map] at h2
    exact Nat.le_trans this h2
  have hUr : ∀ x ∈ uptoL a e2, x.f1.length < 9223372036854775807 := told_row (uptoL_is a e2 a1) fun k x hx => by
    obtain ⟨y, hy, e⟩ := uptoF_row a e2 k x hx
    rw [e]; have := a2 y hy; omega
  have hMl : (mergedL a l).length ≤ a.length := Nat.le_trans (toldL_len _ _) hn1
  have hMr : ∀ x ∈ mergedL a l, x.f1.length < 9223372036854775807 := told_row (mergedL_is a l a1 h1) fun k x hx => by
    obtain ⟨y, hy, e⟩ := mergedF_f1 a l k x hx
    rw [e]; have := hy.elim (a2 y) (h2 y); omega
  obtain ⟨K1, q1⟩ := sameAll_f (uptoL a e2) (by omega) hUr
  obtain ⟨K2, q2⟩ := sameAll_f (changesL a e1 e2) (by have : (changesL a e1 e2).length ≤ (uptoL a e2).length := List.length_filter_le _ _; omega) (fun x hx => hUr x (List.mem_filter.1 hx).1)
  obtain ⟨K3, q3⟩ := sameAll_f (mergedL a l) (by omega) hMr
  have hC : changesL a.reverse e1 e2 = changesL a e1 e2 := by unfold changesL; rw [hU]
  refine ⟨((K1 + K2 + K3 + l.length + 1) + a.length + 1) + l.length + 1, ?_⟩
  unfold hayloftlaw18_RecoverOrder.f
  have s0 := order_l0 l e1 e2 (by omega) ((K1 + K2 + K3 + l.length + 1) + a.length + 1) (by omega) l.length 0 [] (by omega) (Nat.le_refl _)
  rw [List.drop_zero, ha] at s0
  have s1 := order_l1 l e1 e2 a (by omega) (K1 + K2 + K3 + l.length + 1) a.length 0 [] (by omega) (Nat.le_refl _)
  rw [List.drop_zero, List.nil_append] at s1
  refine s0.trans (s1.trans ?_)
  rw [hayloftlaw18_RecoverOrder.l1, if_neg (by omega), alive18, Option.bind_some, if_pos rfl]
  unfold recover_Upto.f recover_Changes.f recover_Merged.f
  rw [if_pos hka, Option.bind_some, if_pos hkb, Option.bind_some, hU, q1 _ (by omega), Option.bind_some, if_pos rfl, if_pos hka, Option.bind_some, if_pos hkb, Option.bind_some, hC, q2 _ (by omega), Option.bind_some, if_pos rfl, if_pos ⟨hka, h, by omega⟩, Option.bind_some, if_pos ⟨hkb, hka, by omega⟩, Option.bind_some, hM, q3 _ (by omega), Option.bind_some]
end Go.Proofs.Ytfepfpcilmaojaa.QV
