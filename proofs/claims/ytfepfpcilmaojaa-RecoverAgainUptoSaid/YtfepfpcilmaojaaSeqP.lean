/- (XSeq, of an iterator whose order is not known) A range over a function, by separation: what an iterator gives (SeqP Pf En: Pf: what may have come; En: what has come at the end), and the law of the statement that ranges over it. M: the blocks that are the consumer's; N: those of what is handed out, if they are new. -/
import Derived.RangeFuncNested
import Derived.RangeFuncBound
import Derived.RangeFuncCalls
import Derived.RangeFuncLeaves
import Derived.Below
namespace Go.Proofs.Ytfepfpcilmaojaa.Seq
open Go Go.RowKit
set_option linter.unusedVariables false

/-- B is A but for the blocks of M, and new ones. -/
structure Kpt (M : Nat → Prop) (A B : World) : Prop where
  os : B.os = A.os
  tape : B.tape = A.tape
  output : B.output = A.output
  size : A.heap.size ≤ B.heap.size
  block : ∀ i, i < A.heap.size → ¬ M i → B.heap[i]? = A.heap[i]?
theorem Kpt.refl (M : Nat → Prop) (A : World) : Kpt M A A := ⟨rfl, rfl, rfl, Nat.le_refl _, fun _ _ _ => rfl⟩
theorem Kpt.mono {M M' : Nat → Prop} {A B : World} (h : Kpt M A B) (hm : ∀ i, i < A.heap.size → M i → M' i) : Kpt M' A B := ⟨h.os, h.tape, h.output, h.size, fun i hi hn => h.block i hi (fun k => hn (hm i hi k))⟩
theorem Kpt.trans {M M1 M2 : Nat → Prop} {A B C : World} (h : Kpt M1 A B) (k : Kpt M2 B C) (hm : ∀ i, i < A.heap.size → M1 i ∨ M2 i → M i) : Kpt M A C :=
  ⟨k.os.trans h.os, k.tape.trans h.tape, k.output.trans h.output, Nat.le_trans h.size k.size, fun i hi hn => (k.block i (Nat.lt_of_lt_of_le hi h.size) (fun z => hn (hm i hi (.inr z)))).trans (h.block i hi (fun z => hn (hm i hi (.inl z))))⟩
theorem Kpt.of_below {b : Nat} {A B : World} (h : Below b A B) : Kpt (fun i => b ≤ i) A B := ⟨h.os, h.tape, h.output, h.size, fun i _ hn => h.block i (by omega)⟩
theorem Kpt.of_new {A B : World} (M : Nat → Prop) (h : Below A.heap.size A B) : Kpt M A B := ⟨h.os, h.tape, h.output, h.size, fun i hi _ => h.block i hi⟩
theorem Kpt.below {M : Nat → Prop} {b : Nat} {A B : World} (h : Kpt M A B) (hb : b ≤ A.heap.size) (hm : ∀ i, i < A.heap.size → M i → b ≤ i) : Below b A B := ⟨h.os, h.tape, h.output, h.size, fun i hi => h.block i (by omega) (fun k => by have := hm i (by omega) k; omega)⟩
theorem Kpt.alloc (M : Nat → Prop) (A : World) (o : Obj) : Kpt M A (A.alloc o) := .of_new M ((Below.refl _ A).alloc (Nat.le_refl _) o)
theorem Kpt.drew (M : Nat → Prop) (A : World) : Kpt M A A.drew := ⟨rfl, rfl, rfl, Nat.le_refl _, fun _ _ _ => rfl⟩
theorem Kpt.grown {A B : World} {row : Option Nat} (h : A.grownBy B row) : Kpt (fun i => some i = row) A B := ⟨h.os, h.tape, h.output, h.size, fun i hi hn => h.block i hi hn⟩
theorem Kpt.putObj (A : World) (l : Nat) (o : Obj) : Kpt (fun i => i = l) A (A.putObj l o) := (Kpt.grown (grownBy_putObj' A l o)).mono (fun i _ h => by simpa using h)
theorem Kpt.setCell (A : World) (p : Addr) (v : Value) : Kpt (fun i => i = p.block) A (A.setCell p v) := ⟨rfl, rfl, rfl, by simp, fun i _ hn => Below.heap_setCell _ _ _ i (fun e => hn e)⟩
theorem Kpt.at {M : Nat → Prop} {A B : World} (h : Kpt M A B) {i : Nat} {o : Obj} (hi : A.heap[i]? = some o) (hn : ¬ M i) : B.heap[i]? = some o := (h.block i (Array.getElem?_eq_some_iff.1 hi).1 hn).trans hi

/-- WHAT AN ITERATOR GIVES: whatever the consumer keeps in its own blocks (J, between two rounds; Jx, once it has said 'no more'), if each round takes an element on, the whole list has come, or a beginning of it, at whose last element the consumer has said 'no more'; the iterator has written only what it made itself. -/
def SeqP {α : Type} (P : Program) (g : Nat) (lb : Array Value) (Rd : World → (Nat → Prop) → α → Array Value → Prop) (Pf En : List α → Prop) (w : World) : Prop :=
  ∀ (l : Nat) (J Jx : List α → (Nat → Prop) → World → Prop) (W : World) (M : Nat → Prop),
    Below w.heap.size w W → (∀ i, M i → w.heap.size ≤ i ∧ i < W.heap.size) →
    (∀ pre M A B, J pre M A → Kpt (fun i => W.heap.size ≤ i ∧ ¬ M i) A B → J pre M B) →
    (∀ pre M A B, Jx pre M A → Kpt (fun i => W.heap.size ≤ i ∧ ¬ M i) A B → Jx pre M B) →
    (∀ pre x vs N A M, J pre M A → Pf (pre ++ [x]) → Rd A N x vs → (∀ i, M i → w.heap.size ≤ i ∧ i < A.heap.size) → (∀ i, N i → W.heap.size ≤ i ∧ i < A.heap.size ∧ ¬ M i) → W.heap.size ≤ A.heap.size →
      YieldAt Fence.wide 0 P l vs A fun e B => ∃ M', (∀ i, M' i → (M i ∨ N i ∨ A.heap.size ≤ i) ∧ i < B.heap.size) ∧ Kpt (fun i => M i ∨ N i) A B ∧
        ((e = .returned (.bool true) ∧ J (pre ++ [x]) M' B) ∨ (e = .returned (.bool false) ∧ Jx (pre ++ [x]) M' B))) →
    J [] M W →
    Calls P g (#[.func (.yield l) #[] #[]] ++ lb) W fun e W' => (∃ v, e = .returned v) ∧ ∃ M', (∀ i, M' i → (M i ∨ W.heap.size ≤ i) ∧ i < W'.heap.size) ∧ Kpt M W W' ∧ ((∃ xs, En xs ∧ J xs M' W') ∨ ∃ pre, Pf pre ∧ Jx pre M' W')

theorem SeqP.later {α : Type} {P : Program} {g : Nat} {lb : Array Value} {Rd : World → (Nat → Prop) → α → Array Value → Prop} {Pf En : List α → Prop} {w w' : World} (h : SeqP P g lb Rd Pf En w) (hb : Below w.heap.size w w') : SeqP P g lb Rd Pf En w' := by
  intro l J Jx W M hW hM hJ hJx hY h0
  refine (h l (fun pre M A => J pre M A ∧ ∀ i, M i → w'.heap.size ≤ i) Jx W M (hb.trans (hW.mono hb.size)) (fun i hi => ⟨Nat.le_trans hb.size (hM i hi).1, (hM i hi).2⟩)
    (fun pre M A B hj hk => ⟨hJ _ _ _ _ hj.1 hk, hj.2⟩) hJx ?_ ⟨h0, fun i hi => (hM i hi).1⟩).mono ?_
  · rintro pre x vs N A M ⟨hj, hm⟩ hpre hRd hMA hN hWA
    have hs : w'.heap.size ≤ W.heap.size := hW.size
    refine (hY pre x vs N A M hj hpre hRd (fun i hi => ⟨hm i hi, (hMA i hi).2⟩) hN hWA).mono ?_
    rintro e B ⟨M', h1, h2, h3⟩
    refine ⟨M', h1, h2, ?_⟩
    rcases h3 with ⟨he, h3⟩ | h3
    · refine .inl ⟨he, h3, fun i hi => ?_⟩
      rcases (h1 i hi).1 with k | k | k
      · exact hm i k
      · have := (hN i k).1; omega
      · omega
    · exact .inr h3
  · rintro e W' ⟨he, M', h1, h2, h3⟩
    refine ⟨he, M', h1, h2, ?_⟩
    rcases h3 with ⟨xs, he3, h3, _⟩ | h3
    · exact .inl ⟨xs, he3, h3⟩
    · exact .inr h3

/-- How a round's body may be left. -/
def PostS {α : Type} (M N : Nat → Prop) (I : List α → (Nat → Prop) → World → Prop) (Ix : Code → List α → (Nat → Prop) → World → Prop) (xs : List α) (A : World) : Exit → Act → World → Prop
  | .normal, _, B => ∃ M', (∀ i, M' i → (M i ∨ N i ∨ A.heap.size ≤ i) ∧ i < B.heap.size) ∧ Kpt (fun i => M i ∨ N i) A B ∧ I xs M' B
  | .ret, _, B => ∃ M', (∀ i, M' i → (M i ∨ N i ∨ A.heap.size ≤ i) ∧ i < B.heap.size) ∧ Kpt (fun i => M i ∨ N i) A B ∧ Ix .ret xs M' B
  | .exit id, _, B => ∃ M', (∀ i, M' i → (M i ∨ N i ∨ A.heap.size ≤ i) ∧ i < B.heap.size) ∧ Kpt (fun i => M i ∨ N i) A B ∧ Ix (.exit id) xs M' B
  | .goto t, _, B => ∃ M', (∀ i, M' i → (M i ∨ N i ∨ A.heap.size ≤ i) ∧ i < B.heap.size) ∧ Kpt (fun i => M i ∨ N i) A B ∧ Ix (.goto t) xs M' B
  | .panic _, _, _ => False
  | .outgrown, _, _ => False

theorem wpIn_rangeP {α : Type} {P : Program} {n : Nat} {g : Operand} {ps : Array Tmp} {assign body : Code} {Q : Exit → Act → World → Prop} {a : Act} {w : World}
    {gf : Nat} {lb : Array Value} (hg : a.eval g = .func (.func gf) #[] lb) (eg : ∀ args w, (callFunc gf args).run P w = .ok (.enter gf args) w)
    {Rd : World → (Nat → Prop) → α → Array Value → Prop} {Pf En : List α → Prop} {w0 : World} (hseq : SeqP P gf lb Rd Pf En w0) (hb0 : Below w0.heap.size w0 w)
    (hps : ∀ A N x vs, Rd A N x vs → vs.size = ps.size)
    (hRd : ∀ A B N x vs, Rd A N x vs → Kpt (fun i => w0.heap.size ≤ i ∧ ¬ N i) A B → Rd B N x vs)
    (I : List α → (Nat → Prop) → World → Prop) (Ix : Code → List α → (Nat → Prop) → World → Prop)
    (hI : ∀ pre M A B, I pre M A → Kpt (fun i => w.heap.size ≤ i ∧ ¬ M i) A B → I pre M B)
    (hIx : ∀ c pre M A B, Ix c pre M A → Kpt (fun i => w.heap.size ≤ i ∧ ¬ M i) A B → Ix c pre M B)
    (M : Nat → Prop) (hM : ∀ i, M i → w0.heap.size ≤ i ∧ i < w.heap.size) (h0 : I [] M w)
    (Ax : α → Array Value → Act → (Nat → Prop) → World → Prop) (hAx : ∀ x vs a₁ M A B, Ax x vs a₁ M A → Kpt (fun i => w.heap.size ≤ i ∧ ¬ M i) A B → Ax x vs a₁ M B)
    (hassign : ∀ l pre x vs N A M, I pre M A → Pf (pre ++ [x]) → Rd A N x vs → (∀ i, M i → w0.heap.size ≤ i ∧ i < A.heap.size) → (∀ i, N i → w.heap.size ≤ i ∧ i < A.heap.size ∧ ¬ M i) →
      assign.wpIn (Fence.wide.inRound l) 0 P (Exit.then (fun a₁ B => ∃ M', (∀ i, M' i → (M i ∨ A.heap.size ≤ i) ∧ i < B.heap.size) ∧ Kpt M A B ∧ I pre M' B ∧ Ax x vs a₁ M' B) (fun _ _ _ => False))
        { tmps := (ps.zip vs).foldl (fun t (p, v) => t.setIfInBounds p v) a.tmps, defers := [] } A)
    (hbody : ∀ l pre x vs N A M a₁, I pre M A → Pf (pre ++ [x]) → Rd A N x vs → Ax x vs a₁ M A → (∀ i, M i → w0.heap.size ≤ i ∧ i < A.heap.size) → (∀ i, N i → w.heap.size ≤ i ∧ i < A.heap.size ∧ ¬ M i) →
      body.wpIn (Fence.wide.inRound l) 0 P (PostS M N I Ix (pre ++ [x]) A) a₁ A)
    (hdone : ∀ D xs W M', En xs → I xs M' W → Kpt M w W → (∀ i, M' i → (M i ∨ w.heap.size ≤ i) ∧ i < W.heap.size) → W.heap[D]? = some (.deferred (some [])) → w.heap.size ≤ D → ¬ M' D →
      Q .normal { a with defers := { target := .collected D, args := #[] } :: a.defers } W)
    (hstop : ∀ D c pre W M', Pf pre → Ix c pre M' W → Kpt M w W → (∀ i, M' i → (M i ∨ w.heap.size ≤ i) ∧ i < W.heap.size) → W.heap[D]? = some (.deferred (some [])) → w.heap.size ≤ D → ¬ M' D →
      c.wpIn Fence.wide n P Q { a with defers := { target := .collected D, args := #[] } :: a.defers } W) :
    (Code.rangeFunc g ps assign body).wpIn Fence.wide n P Q a w := by
  refine wpIn_rangeFunc ?_
  intro fn hfn
  obtain ⟨rec, hrec⟩ : ∃ rec : LoopState → Option Code → Loop, rec = fun st pe => { state := st, pending := pe, fn, tmps := a.tmps, params := ps, assign, body, defers := w.heap.size } := ⟨_, rfl⟩
  obtain ⟨W1, hW1⟩ : ∃ W1, (w.alloc (.deferred (some []))).alloc (.loop (rec .ready none)) = W1 := ⟨_, rfl⟩
  have hL1 : W1.heap[w.heap.size + 1]? = some (.loop (rec .ready none)) := by
    rw [← hW1]; have := World.alloc_heap_new (w.alloc (.deferred (some []))) (.loop (rec .ready none)); rwa [World.size_alloc] at this
  have hK1 : W1.heap[w.heap.size]? = some (.deferred (some [])) := by
    rw [← hW1]; exact (Below.heap_alloc _ _ _ (by simp)).trans (World.alloc_heap_new w _)
  have hB1 : Below w.heap.size w W1 := by rw [← hW1]; exact ((Below.refl _ w).alloc (Nat.le_refl _) _).alloc (by simp) _
  have hs1 : W1.heap.size = w.heap.size + 2 := by rw [← hW1]; simp
  have hI1 : I [] M W1 := hI _ _ _ _ h0 (.of_new _ hB1)
  have hb1 : Below w0.heap.size w0 W1 := hb0.trans (hB1.mono hb0.size)
  have hw0 : w0.heap.size ≤ w.heap.size := hb0.size
  refine ⟨w.heap.size + 1, [{ target := .collected w.heap.size, args := #[] }], W1, { target := .fn (.func gf) lb, args := #[.func (.yield (w.heap.size + 1)) #[] #[]] }, W1, gf,
    #[.func (.yield (w.heap.size + 1)) #[] #[]] ++ lb, W1, ?_, ?_, ?_, ?_, (fun h => by cases h), ?_⟩
  · rw [← hW1, hrec]; exact run_enterLoop_outer _ _ _ _ _
  · simp only [resolve, hg]
    simp [go_sem]
  · intro f' hf'; trivial
  · simp [invoke, go_sem, eg]
  · obtain ⟨J, hJd⟩ : ∃ J : (LoopState → Option Code → Prop) → ((List α) → (Nat → Prop) → World → Option Code → Prop) → List α → (Nat → Prop) → World → Prop,
        J = fun S X pre Mh A => ∃ M st pe, S st pe ∧ (∀ i, Mh i ↔ (M i ∨ i = w.heap.size + 1 ∨ i = w.heap.size)) ∧ (∀ i, M i → i ≠ w.heap.size + 1 ∧ i ≠ w.heap.size) ∧ X pre M A pe ∧
          A.heap[w.heap.size + 1]? = some (.loop (rec st pe)) ∧ A.heap[w.heap.size]? = some (.deferred (some [])) := ⟨_, rfl⟩
    have hJst : ∀ S X pre Mh A B, (∀ pre M A B pe, X pre M A pe → Kpt (fun i => w.heap.size ≤ i ∧ ¬ M i) A B → X pre M B pe) → J S X pre Mh A → Kpt (fun i => W1.heap.size ≤ i ∧ ¬ Mh i) A B → J S X pre Mh B := by
      intro S X pre Mh A B hX hj hk
      rw [hJd] at hj ⊢
      obtain ⟨M, st, pe, hS, hM1, hM2, hx, hl, hd⟩ := hj
      exact ⟨M, st, pe, hS, hM1, hM2, hX _ _ _ _ _ hx (hk.mono (fun i _ h => ⟨by omega, fun k => h.2 ((hM1 i).2 (.inl k))⟩)), hk.at hl (fun h => h.2 ((hM1 _).2 (.inr (.inl rfl)))), hk.at hd (fun h => h.2 ((hM1 _).2 (.inr (.inr rfl))))⟩
    refine ((callsIn_wide (n := n - 1)).2 (hseq (w.heap.size + 1) (J (fun st pe => st = .ready ∧ pe = none) (fun pre M A _ => I pre M A)) (J (fun st pe => st = .done ∧ pe.isSome = true) (fun pre M A pe => ∃ c, pe = some c ∧ Ix c pre M A)) W1 (fun i => M i ∨ i = w.heap.size + 1 ∨ i = w.heap.size) hb1 ?_ ?_ ?_ ?_ ?_)).mono ?_
    · intro i hi
      rcases hi with h | h | h
      · have := hM i h; omega
      · omega
      · omega
    · intro pre Mh A B hj hk
      exact hJst _ _ _ _ _ _ (fun pre M A B pe h k => hI _ _ _ _ h k) hj hk
    · intro pre Mh A B hj hk
      exact hJst _ _ _ _ _ _ (fun pre M A B pe h k => by obtain ⟨c, e, h⟩ := h; exact ⟨c, e, hIx _ _ _ _ _ h k⟩) hj hk
    · -- ONE ROUND
      intro pre x vs N A Mh hj hpre hrd hMh hN hWA
      rw [hJd] at hj
      obtain ⟨M2, st, pe, ⟨rfl, rfl⟩, hM1, hM2, hi, hl, hd⟩ := hj
      have hMA : ∀ i, M2 i → w0.heap.size ≤ i ∧ i < A.heap.size := fun i h => hMh i ((hM1 i).2 (.inl h))
      have hNA : ∀ i, N i → w.heap.size ≤ i ∧ i < A.heap.size ∧ ¬ M2 i := fun i h => by
        obtain ⟨h1, h2, h3⟩ := hN i h
        exact ⟨by omega, h2, fun k => h3 ((hM1 i).2 (.inl k))⟩
      have hNl : ∀ i, N i → i ≠ w.heap.size + 1 ∧ i ≠ w.heap.size := fun i h => ⟨fun e => (hN i h).2.2 ((hM1 i).2 (.inr (.inl e))), fun e => (hN i h).2.2 ((hM1 i).2 (.inr (.inr e)))⟩
      have hlA : w.heap.size + 1 < A.heap.size := (Array.getElem?_eq_some_iff.1 hl).1
      have hy := run_yield (P := P) (args := vs) hl (by rw [hrec]; exact hps _ _ _ _ hrd)
      rw [hrec] at hy
      refine ⟨fn, _, assign, body, hy, roundIn_of_wpIn hfn (wpIn_mono (hassign _ pre x vs N A M2 hi hpre hrd hMA hNA) ?_)⟩
      rintro e a₁ B hp
      cases e with
      | exit id => exact hp.elim
      | goto t => exact hp.elim
      | ret => exact hp.elim
      | panic c => exact hp.elim
      | outgrown => exact hp.elim
      | normal =>
        obtain ⟨M3, h31, h32, hi3, hax⟩ := hp
        have hl3 : B.heap[w.heap.size + 1]? = some (.loop (rec .ready none)) := h32.at hl (fun h => (hM2 _ h).1 rfl)
        have hd3 : B.heap[w.heap.size]? = some (.deferred (some [])) := h32.at hd (fun h => (hM2 _ h).2 rfl)
        have hM3 : ∀ i, M3 i → i ≠ w.heap.size + 1 ∧ i ≠ w.heap.size := fun i h => by
          rcases (h31 i h).1 with k | k
          · exact hM2 i k
          · omega
        have hNM3 : ∀ i, N i → ¬ M3 i := fun i h k => by
          rcases (h31 i k).1 with z | z
          · exact (hNA i h).2.2 z
          · have := (hNA i h).2.1; omega
        refine ⟨_, run_beginRound hl3 (by rw [hrec]), ?_⟩
        obtain ⟨B2, hB2⟩ : ∃ B2, B.putObj (w.heap.size + 1) (.loop { rec .ready none with state := .busy }) = B2 := ⟨_, rfl⟩
        rw [hB2]
        have hk2 : Kpt (fun i => i = w.heap.size + 1) B B2 := by rw [← hB2]; exact .putObj _ _ _
        have hl2 : B2.heap[w.heap.size + 1]? = some (.loop { rec .ready none with state := .busy }) := by rw [← hB2]; exact World.putObj_heap_same (Array.getElem?_eq_some_iff.1 hl3).1
        have hd2 : B2.heap[w.heap.size]? = some (.deferred (some [])) := hk2.at hd3 (by omega)
        have hsz2 : B2.heap.size = B.heap.size := by rw [← hB2]; simp [World.putObj]
        have hk2M : Kpt (fun i => w.heap.size ≤ i ∧ ¬ M3 i) B B2 := hk2.mono (fun i _ e => ⟨by omega, fun k => (hM3 i k).1 e⟩)
        have hrd2 : Rd B2 N x vs := hRd _ _ _ _ _ hrd (h32.trans hk2 (fun i hi h => by
          rcases h with h | h
          · exact ⟨(hMA i h).1, fun k => (hNA i k).2.2 h⟩
          · exact ⟨by omega, fun k => (hNl i k).1 h⟩))
        have hsAB := h32.size
        refine wpIn_mono (hbody _ pre x vs N B2 M3 a₁ (hI _ _ _ _ hi3 hk2M) hpre hrd2 (hAx _ _ _ _ _ _ hax hk2M) ?_ ?_) ?_
        · intro i h
          have h1 := (h31 i h).2
          rcases (h31 i h).1 with k | k
          · have := hMA i k; omega
          · omega
        · intro i h
          have := hNA i h
          exact ⟨this.1, by omega, hNM3 i h⟩
        have fin : ∀ (jump : Option Code) (B3 : World) (M4 : Nat → Prop), Kpt (fun i => M3 i ∨ N i) B2 B3 → (∀ i, M4 i → (M3 i ∨ N i ∨ B2.heap.size ≤ i) ∧ i < B3.heap.size) →
            (Instr.endRound (w.heap.size + 1) jump).run P B3 = .ok (.bool jump.isNone) (B3.putObj (w.heap.size + 1) (.loop (rec (if jump.isNone then .ready else .done) jump))) ∧
            (B3.putObj (w.heap.size + 1) (.loop (rec (if jump.isNone then .ready else .done) jump))).heap[w.heap.size + 1]? = some (.loop (rec (if jump.isNone then .ready else .done) jump)) ∧
            (B3.putObj (w.heap.size + 1) (.loop (rec (if jump.isNone then .ready else .done) jump))).heap[w.heap.size]? = some (.deferred (some [])) ∧
            Kpt (fun i => Mh i ∨ N i) A (B3.putObj (w.heap.size + 1) (.loop (rec (if jump.isNone then .ready else .done) jump))) ∧
            (∀ i, (M4 i ∨ i = w.heap.size + 1 ∨ i = w.heap.size) → (Mh i ∨ N i ∨ A.heap.size ≤ i) ∧ i < (B3.putObj (w.heap.size + 1) (.loop (rec (if jump.isNone then .ready else .done) jump))).heap.size) ∧
            (∀ i, M4 i → i ≠ w.heap.size + 1 ∧ i ≠ w.heap.size) ∧
            Kpt (fun i => w.heap.size ≤ i ∧ ¬ M4 i) B3 (B3.putObj (w.heap.size + 1) (.loop (rec (if jump.isNone then .ready else .done) jump))) := by
          intro jump B3 M4 hk3 h4
          have hl4 : B3.heap[w.heap.size + 1]? = some (.loop { rec .ready none with state := .busy }) := hk3.at hl2 (fun h => by rcases h with h | h; exact (hM3 _ h).1 rfl; exact (hNl _ h).1 rfl)
          have hd4 : B3.heap[w.heap.size]? = some (.deferred (some [])) := hk3.at hd2 (fun h => by rcases h with h | h; exact (hM3 _ h).2 rfl; exact (hNl _ h).2 rfl)
          have hr := run_endRound (P := P) jump hl4
          have hlt := (Array.getElem?_eq_some_iff.1 hl4).1
          have hsz3 := hk3.size
          have hM4 : ∀ i, M4 i → i ≠ w.heap.size + 1 ∧ i ≠ w.heap.size := fun i h => by
            rcases (h4 i h).1 with k | k | k
            · exact hM3 i k
            · exact hNl i k
            · omega
          have hpo : Kpt (fun i => i = w.heap.size + 1) B3 (B3.putObj (w.heap.size + 1) (.loop (rec (if jump.isNone then .ready else .done) jump))) := .putObj _ _ _
          refine ⟨by rw [hrec] at hr ⊢; exact hr, World.putObj_heap_same hlt, (World.putObj_heap_other (by omega)).trans hd4, ?_, ?_, hM4, hpo.mono (fun i _ e => ⟨by omega, fun k => (hM4 i k).1 e⟩)⟩
          · refine Kpt.trans (M1 := fun i => Mh i ∨ N i) ?_ (hpo.mono (M' := fun i => i = w.heap.size + 1) (fun i _ e => e)) (fun i hi h => by
              rcases h with h | h
              · exact h
              · exact .inl ((hM1 i).2 (.inr (.inl h))))
            refine Kpt.trans (M1 := fun i => Mh i ∨ N i) ?_ hk3 (fun i hi h => by
              rcases h with h | h | h
              · exact h
              · rcases (h31 i h).1 with k | k
                · exact .inl ((hM1 i).2 (.inl k))
                · omega
              · exact .inr h)
            exact h32.trans hk2 (fun i hi h => by
              rcases h with h | h
              · exact .inl ((hM1 i).2 (.inl h))
              · exact .inl ((hM1 i).2 (.inr (.inl h))))
          · intro i h
            have hps : (B3.putObj (w.heap.size + 1) (.loop (rec (if jump.isNone then .ready else .done) jump))).heap.size = B3.heap.size := by simp [World.putObj]
            rw [hps]
            rcases h with h | h | h
            · refine ⟨?_, (h4 i h).2⟩
              rcases (h4 i h).1 with k | k | k
              · rcases (h31 i k).1 with z | z
                · exact .inl ((hM1 i).2 (.inl z))
                · exact .inr (.inr z)
              · exact .inr (.inl k)
              · exact .inr (.inr (by omega))
            · exact ⟨.inl ((hM1 i).2 (.inr (.inl h))), by omega⟩
            · exact ⟨.inl ((hM1 i).2 (.inr (.inr h))), by omega⟩
        rintro e a3 B3 hp
        cases e with
        | normal =>
          obtain ⟨M4, h41, h42, hi4⟩ := hp
          obtain ⟨f1, f2, f3, f4, f5, f6, f7⟩ := fin none B3 M4 h42 h41
          refine ⟨_, _, f1, _, f5, f4, .inl ⟨rfl, ?_⟩⟩
          rw [hJd]
          exact ⟨M4, _, _, ⟨rfl, rfl⟩, fun _ => Iff.rfl, f6, hI _ _ _ _ hi4 f7, f2, f3⟩
        | ret =>
          obtain ⟨M4, h41, h42, hi4⟩ := hp
          obtain ⟨f1, f2, f3, f4, f5, f6, f7⟩ := fin (some .ret) B3 M4 h42 h41
          refine ⟨_, _, f1, _, f5, f4, .inr ⟨rfl, ?_⟩⟩
          rw [hJd]
          exact ⟨M4, _, _, ⟨rfl, rfl⟩, fun _ => Iff.rfl, f6, ⟨_, rfl, hIx _ _ _ _ _ hi4 f7⟩, f2, f3⟩
        | exit id =>
          obtain ⟨M4, h41, h42, hi4⟩ := hp
          obtain ⟨f1, f2, f3, f4, f5, f6, f7⟩ := fin (some (.exit id)) B3 M4 h42 h41
          refine ⟨_, _, f1, _, f5, f4, .inr ⟨rfl, ?_⟩⟩
          rw [hJd]
          exact ⟨M4, _, _, ⟨rfl, rfl⟩, fun _ => Iff.rfl, f6, ⟨_, rfl, hIx _ _ _ _ _ hi4 f7⟩, f2, f3⟩
        | goto t =>
          obtain ⟨M4, h41, h42, hi4⟩ := hp
          obtain ⟨f1, f2, f3, f4, f5, f6, f7⟩ := fin (some (.goto t)) B3 M4 h42 h41
          refine ⟨_, _, f1, _, f5, f4, .inr ⟨rfl, ?_⟩⟩
          rw [hJd]
          exact ⟨M4, _, _, ⟨rfl, rfl⟩, fun _ => Iff.rfl, f6, ⟨_, rfl, hIx _ _ _ _ _ hi4 f7⟩, f2, f3⟩
        | panic ch => exact hp.elim
        | outgrown => exact hp.elim
    · rw [hJd]
      exact ⟨M, _, _, ⟨rfl, rfl⟩, fun _ => Iff.rfl, fun i h => by have := hM i h; omega, hI1, hL1, hK1⟩
    · -- BEHIND THE ITERATOR
      rintro e W2 ⟨⟨v, rfl⟩, Mh, hm1, hk, hj⟩
      have ends : ∀ (M4 : Nat → Prop) (st : LoopState) (pe : Option Code), st ≠ .busy → (∀ i, Mh i ↔ (M4 i ∨ i = w.heap.size + 1 ∨ i = w.heap.size)) → (∀ i, M4 i → i ≠ w.heap.size + 1 ∧ i ≠ w.heap.size) → W2.heap[w.heap.size + 1]? = some (.loop (rec st pe)) → W2.heap[w.heap.size]? = some (.deferred (some [])) →
          (Instr.endLoop (w.heap.size + 1)).run P W2 = .ok pe (W2.putObj (w.heap.size + 1) (.loop (rec .exhausted pe))) ∧
          Kpt (fun i => w.heap.size ≤ i ∧ ¬ M4 i) W2 (W2.putObj (w.heap.size + 1) (.loop (rec .exhausted pe))) ∧ Kpt M w (W2.putObj (w.heap.size + 1) (.loop (rec .exhausted pe))) ∧
          (∀ i, M4 i → (M i ∨ w.heap.size ≤ i) ∧ i < (W2.putObj (w.heap.size + 1) (.loop (rec .exhausted pe))).heap.size) ∧ (W2.putObj (w.heap.size + 1) (.loop (rec .exhausted pe))).heap[w.heap.size]? = some (.deferred (some [])) := by
        intro M4 st pe hst h1 h2 hl hd
        have hr := run_endLoop (P := P) hl (by rw [hrec]; exact hst)
        have hpo : Kpt (fun i => i = w.heap.size + 1) W2 (W2.putObj (w.heap.size + 1) (.loop (rec .exhausted pe))) := .putObj _ _ _
        have hps : (W2.putObj (w.heap.size + 1) (.loop (rec .exhausted pe))).heap.size = W2.heap.size := by simp [World.putObj]
        refine ⟨by rw [hrec] at hr ⊢; exact hr, hpo.mono (fun i _ e => ⟨by omega, fun k => (h2 i k).1 e⟩), ?_, fun i h => ?_, (World.putObj_heap_other (by omega)).trans hd⟩
        · refine Kpt.trans (M1 := M) ((Kpt.of_new M hB1).trans hk (fun i hi h => ?_)) hpo (fun i hi h => ?_)
          · rcases h with h | h | h | h
            · exact h
            · exact h
            · omega
            · omega
          · rcases h with h | h
            · exact h
            · omega
        · rw [hps]
          have := hm1 i ((h1 i).2 (.inl h))
          refine ⟨?_, this.2⟩
          rcases this.1 with (k | k | k) | k
          · exact .inl k
          · exact .inr (by omega)
          · exact .inr (by omega)
          · exact .inr (by omega)
      rcases hj with ⟨xs, hen, hj⟩ | ⟨pre, hpre, hj⟩
      · rw [hJd] at hj
        obtain ⟨M4, st, pe, ⟨rfl, rfl⟩, h1, h2, hi, hl, hd⟩ := hj
        obtain ⟨e1, e2, e3, e4, e5⟩ := ends M4 _ _ (by simp) h1 h2 hl hd
        exact ⟨none, _, e1, hdone _ xs _ M4 hen (hI _ _ _ _ hi e2) e3 e4 e5 (Nat.le_refl _) (fun h => (h2 _ h).2 rfl)⟩
      · rw [hJd] at hj
        obtain ⟨M4, st, pe, ⟨rfl, hp⟩, h1, h2, ⟨c, rfl, hi⟩, hl, hd⟩ := hj
        obtain ⟨e1, e2, e3, e4, e5⟩ := ends M4 _ _ (by simp) h1 h2 hl hd
        exact ⟨some c, _, e1, hstop _ c pre _ M4 hpre (hIx _ _ _ _ _ hi e2) e3 e4 e5 (Nat.le_refl _) (fun h => (h2 _ h).2 rfl)⟩
/-- .. whose list is known. -/
def SeqOf {α : Type} (P : Program) (g : Nat) (lb : Array Value) (Rd : World → (Nat → Prop) → α → Array Value → Prop) (xs : List α) (w : World) : Prop := SeqP P g lb Rd (· <+: xs) (· = xs) w
theorem SeqOf.later {α : Type} {P : Program} {g : Nat} {lb : Array Value} {Rd : World → (Nat → Prop) → α → Array Value → Prop} {xs : List α} {w w' : World} (h : SeqOf P g lb Rd xs w) (hb : Below w.heap.size w w') : SeqOf P g lb Rd xs w' := SeqP.later h hb
end Go.Proofs.Ytfepfpcilmaojaa.Seq
