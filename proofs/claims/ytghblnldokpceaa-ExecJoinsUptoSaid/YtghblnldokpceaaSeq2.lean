/- An iterator that ranges over another one: what lies between the consumer's rounds. -/
import Derived.Test.YtghblnldokpceaaRound
import Derived.ControlIn
import Derived.Scope
namespace Go.Proofs.Ytghblnldokpceaa.Seq
open Go Go.RowKit
set_option linter.unusedVariables false
theorem round_in {n : Nat} {P : Program} {l : Nat} {f : FuncId} {tmps : Array Value} {assign body : Code} {w : World} {R : Ending → World → Prop} (l' : Nat) (h : RoundIn Fence.wide n P l f tmps assign body w R) : RoundIn (Rn l') n P l f tmps assign body w R := h
/-- The consumer's J (whose blocks were Mc when the walk began, in W), in an iterator that had come to W2 when it began to range over another one: its blocks now, Mj, and the iterator's own. -/
def J2 {α : Type} (J : List α → (Nat → Prop) → World → Prop) (Mc : Nat → Prop) (W W2 : World) (xs : List α) (Mh : Nat → Prop) (A : World) : Prop :=
  ∃ Mj, J xs Mj A ∧ (∀ i, Mh i ↔ (Mj i ∨ (W.heap.size ≤ i ∧ i < W2.heap.size))) ∧ (∀ i, Mj i → (Mc i ∨ W2.heap.size ≤ i) ∧ i < A.heap.size) ∧ Kpt Mc W2 A
theorem J2.kept {α : Type} {J : List α → (Nat → Prop) → World → Prop} {Mc : Nat → Prop} {W W2 : World} {xs : List α} {Mh : Nat → Prop} {A B : World}
    (hJ : ∀ pre M A B, J pre M A → Kpt (fun i => W.heap.size ≤ i ∧ ¬ M i) A B → J pre M B) (hz : W.heap.size ≤ W2.heap.size) (h : J2 J Mc W W2 xs Mh A) (hk : Kpt (fun i => W2.heap.size ≤ i ∧ ¬ Mh i) A B) : J2 J Mc W W2 xs Mh B := by
  obtain ⟨Mj, h1, h2, h3, h4⟩ := h
  refine ⟨Mj, hJ _ _ _ _ h1 (hk.mono (fun i _ h => ⟨by omega, fun k => h.2 ((h2 i).2 (.inl k))⟩)), h2, fun i hi => ⟨(h3 i hi).1, Nat.lt_of_lt_of_le (h3 i hi).2 hk.size⟩, h4.trans hk (fun i hi h => ?_)⟩
  rcases h with h | h
  · exact h
  · omega
theorem J2.put {α : Type} {J : List α → (Nat → Prop) → World → Prop} {Mc : Nat → Prop} {W W2 : World} {xs : List α} {Mh : Nat → Prop} {A : World} {D : Nat} {o : Obj}
    (hJ : ∀ pre M A B, J pre M A → Kpt (fun i => W.heap.size ≤ i ∧ ¬ M i) A B → J pre M B) (hMc : ∀ i, Mc i → i < W.heap.size) (hz : W.heap.size ≤ W2.heap.size) (h : J2 J Mc W W2 xs Mh A) (hD : W2.heap.size ≤ D) (hDM : ¬ Mh D) : J2 J Mc W W2 xs Mh (A.putObj D o) :=
  h.kept hJ hz ((Kpt.putObj A D o).mono (fun i _ e => by rw [e]; exact ⟨hD, hDM⟩))
theorem J2.ends {α : Type} {J : List α → (Nat → Prop) → World → Prop} {Mc : Nat → Prop} {W W2 : World} {xs : List α} {Mh : Nat → Prop} {A : World} {D : Nat} {o : Obj}
    (hJ : ∀ pre M A B, J pre M A → Kpt (fun i => W.heap.size ≤ i ∧ ¬ M i) A B → J pre M B) (hMc : ∀ i, Mc i → i < W.heap.size) (hBW : Below W.heap.size W W2) (h : J2 J Mc W W2 xs Mh A) (hD : W.heap.size ≤ D) (hDM : W2.heap.size ≤ D → ¬ Mh D) :
    ∃ M', (∀ i, M' i → (Mc i ∨ W.heap.size ≤ i) ∧ i < (A.putObj D o).heap.size) ∧ Kpt Mc W (A.putObj D o) ∧ J xs M' (A.putObj D o) := by
  obtain ⟨Mj, h1, h2, h3, h4⟩ := h
  have hz := hBW.size
  have hp : Kpt (fun i => i = D) A (A.putObj D o) := Kpt.putObj A D o
  refine ⟨Mj, fun i hi => ⟨by rcases (h3 i hi).1 with h | h; exact .inl h; exact .inr (by omega), Nat.lt_of_lt_of_le (h3 i hi).2 hp.size⟩, ?_, hJ _ _ _ _ h1 (hp.mono (fun i _ e => ?_))⟩
  · exact ((Kpt.of_new Mc hBW).trans h4 (fun _ _ h => h.elim id id)).trans hp (fun i hi h => by
      rcases h with h | h
      · exact h
      · omega)
  · rw [e]
    refine ⟨hD, fun k => ?_⟩
    rcases Nat.lt_or_ge D W2.heap.size with hl | hl
    · rcases (h3 D k).1 with z | z
      · have := hMc D z; omega
      · omega
    · exact hDM hl ((h2 D).2 (.inl k))
end Go.Proofs.Ytghblnldokpceaa.Seq
/- A scope through which the run goes without a jump, in a round too (the kit has it for a plain walk only). -/
namespace Go.Proofs.Ytghblnldokpceaa.Op
open Go
section
variable {F : Fence} {n : Nat} {P : Program} {b : Frame} {a : Act} {k : List Item} {cs : List Frame} {w : World} {Q : Exit → Act → World → Prop}
theorem stepR_scope {c : Code} : step P (lone (b.atR a (.code (.scope c) :: k)) cs w) = .next (lone (b.atR a (.code c :: .inScope c :: k)) cs w) :=
  step_lone_go (by simp [stepG, stepG.exec, Frame.atR])
theorem stepR_inScope {c : Code} : step P (lone (b.atR a (.inScope c :: k)) cs w) = .next (lone (b.atR a k) cs w) :=
  step_lone_go (by simp [stepG, stepG.exec, Frame.atR])
theorem wpIn_scope {c : Code} (h : c.wpIn F n P (Exit.noGoto Q) a w) : (Code.scope c).wpIn F n P Q a w := by
  intro b k cs hro hb hr
  have h0 : (lone (b.atR a (.code (.scope c) :: k)) cs w).fenced P F := fenced_calm hb hr rfl
  obtain ⟨e, a₁, w₁, hq, harr⟩ := h b (.inScope c :: k) cs hro hb hr
  cases e with
  | normal => exact ⟨.normal, a₁, w₁, hq, .head h0 stepR_scope (StepsIn.trans harr (.one (fenced_calm hb hr rfl) stepR_inScope))⟩
  | exit id =>
    have hx : exitTo id (.inScope c :: k) = exitTo id k := by simp [exitTo]
    exact ⟨.exit id, a₁, w₁, hq, fun k' hk => .head h0 stepR_scope (harr.1 k' (by rw [hx]; exact hk)), fun hr' hk => let ⟨k₁, h1, h2⟩ := harr.2 hr' (by rw [hx]; exact hk); ⟨k₁, h1, .head h0 stepR_scope h2⟩⟩
  | goto l => exact hq.elim
  | ret => exact ⟨_, a₁, w₁, hq, .of_steps (.one h0 stepR_scope) harr⟩
  | panic ch => exact ⟨_, a₁, w₁, hq, .of_steps (.one h0 stepR_scope) harr⟩
  | outgrown => exact ⟨_, a₁, w₁, hq, .of_steps (.one h0 stepR_scope) harr⟩
end
end Go.Proofs.Ytghblnldokpceaa.Op
