/- maps.Keys of a map of versions: the iterator hands out each name once, in some order. -/
import Derived.Test.YtfepfpcilmaojaaMap
import Derived.Test.YtfepfpcilmaojaaSeqP
import Derived.Shelf.Abstract
import Derived.OwnWalkIn
import Derived.TacticsInMore
import Derived.LoopNIn
import Derived.LoopIn
namespace Go.Proofs.Ytfepfpcilmaojaa.QV
open Go.RowKit Go.Proofs.YtfepfpcilmaojaaW.PrintWords Go.Proofs.Ytfepfpcilmaojaa.Seq Go.Proofs.Ytfepfpcilmaojaa.Mp Go.Shelf
set_option linter.unusedVariables false
set_option linter.unusedSimpArgs false
attribute [local go_sem] Oper.semAt_some

def RdNm (A : World) (N : Nat → Prop) (x : Nm) (vs : Array Value) : Prop := (∀ i, ¬ N i) ∧ Nok x ∧ vs = #[.agg #[.int .u64 x.f0, .int .u32 x.f1]]
/-- All names at which f has something, each once. -/
def AllOf (f : Nm → Option Value) (xs : List Nm) : Prop := xs.Nodup ∧ (∀ a ∈ xs, Nok a) ∧ ∀ a, Nok a → ((f a).isSome = true ↔ a ∈ xs)
theorem keys_any (mb : Option Nat) (w : World) :
    Calls Try.prog 45 #[.map mb] w fun e w' => e = .returned (.func (.func 51) #[] #[.pointer (some ⟨w.heap.size, 0, none⟩)]) ∧ w' = w.alloc (.cells #[.map mb] tMap) := by
  go_enter Try.func45, Try.ntmps45
  go_wp2
  go_ret
  exact ⟨rfl, rfl⟩

set_option maxRecDepth 100000 in
set_option maxHeartbeats 2000000 in
theorem keys_seq (B b n : Nat) (f : Nm → Option Value) (w : World) (hB : B < w.heap.size) (hcell : w.cell? ⟨B, 0, none⟩ = some (.map (some b))) (hm : MapIs nmK w b n f) :
    SeqP Try.prog 51 #[.pointer (some ⟨B, 0, none⟩)] RdNm (fun pre => pre.length ≤ n) (fun xs => xs.length ≤ n ∧ AllOf f xs) w := by
  intro l J Jx W M hW hM hJ hJx hY h0
  have hcW : W.cell? ⟨B, 0, none⟩ = some (.map (some b)) := (hW.cell (p := ⟨B, 0, none⟩) hB).trans hcell
  have hmW := hm.below hW
  refine (callsIn_wide (n := 0)).1 (callsIn_of_wp Try.func51 rfl trivial ?_ rfl)
  simp only [Try.ntmps51, List.size_toArray, List.length_cons, List.length_nil, Nat.reduceAdd, Nat.reduceSub, Array.replicate_succ, Array.replicate_zero, List.push_toArray, List.append_toArray, List.nil_append, List.cons_append]
  gi_wp2_with (first
    | (gi_at_range; refine wpListIn_range_map _ rfl _ tMap rfl tVer Try.underlying52 rfl hmW ?_; intro w0 cnt0 hrg0 hc0 hg0 hs0)
    | gi_in)
  have hb0 : Below W.heap.size W w0 := (Below.refl _ _).grown hg0 (Nat.le_refl _) (fun k e => by cases e)
  gi_loopw [3] (fun _ wr => ∃ (todo : Nm → Bool) (cnt : Nat) (xs : List Nm) (Mk : Nat → Prop), RangeIs nmK wr b W.heap.size n f todo cnt ∧ xs.length + cnt ≤ n ∧ xs.Nodup ∧ (∀ a ∈ xs, Nok a) ∧ (∀ a, Nok a → ((f a).isSome = true ↔ (todo a = true ∨ a ∈ xs))) ∧ (∀ a ∈ xs, todo a = false) ∧
      J xs Mk wr ∧ (∀ i, Mk i → (M i ∨ W.heap.size ≤ i) ∧ i < wr.heap.size) ∧ ¬ Mk W.heap.size ∧ Kpt M W wr)
    (fun _ wr => wr.rangeLeft b W.heap.size)
  case atStart =>
    exact ⟨_, cnt0, [], M, hrg0, by simpa using hc0, List.nodup_nil, fun a h => (by cases h), fun a ha => by simp, fun a h => (by cases h), hJ _ _ _ _ h0 (Kpt.of_new _ hb0), fun i hi => ⟨.inl hi, Nat.lt_of_lt_of_le (hM i hi).2 hb0.size⟩, fun h => absurd (hM _ h).2 (Nat.lt_irrefl _), Kpt.of_new _ hb0⟩
  case round =>
    obtain ⟨todo, cnt, xs, Mk, hrg, hcs, hnd, hxok, hin, hout, hJk, hMk, hMr, hkp⟩ := hrel
    gi_wp2_with (first
      | (gi_at_next; refine wpListIn_next_map _ rfl _ rfl rfl hrg ?_ ?_)
      | gi_in)
    · -- nothing is left
      intro hc0 hl0
      gi_wp2
      go_end0
      refine ⟨⟨_, rfl⟩, Mk, hMk, hkp, .inl ⟨xs, ⟨by omega, hnd, hxok, fun a ha => ?_⟩, hJk⟩⟩
      rw [hin a ha, hl0 a ha]; simp
    · intro x v w2 cnt2 hxk htd hfv hrg2 hlt hg2 hs2 hen
      rw [nmK_val] at hen
      have hk2 : Kpt (fun i => i = W.heap.size) wr w2 := (Kpt.grown hg2).mono (fun i _ h => by simpa using h)
      have hJ2 : J xs Mk w2 := hJ _ _ _ _ hJk (hk2.mono (fun i _ e => by rw [e]; exact ⟨Nat.le_refl _, hMr⟩))
      have hw0 : w.heap.size ≤ W.heap.size := hW.size
      have hWr : W.heap.size ≤ wr.heap.size := hkp.size
      obtain ⟨w3, hw3⟩ : ∃ w3, w2.alloc (.cells #[.int .u64 x.f0, .int .u32 x.f1] tNm) = w3 := ⟨_, rfl⟩
      have hk3 : Kpt (fun _ => False) w2 w3 := by rw [← hw3]; exact Kpt.alloc _ _ _
      have hb3 := blk_new w2 (.cells #[.int .u64 x.f0, .int .u32 x.f1] tNm)
      rw [hw3, hs2] at hb3
      have hq0 : w3.cell? ⟨wr.heap.size, 0, none⟩ = some (.int .u64 x.f0) := blk_cell hb3 0
      have hq1 : w3.cell? ⟨wr.heap.size, 1, none⟩ = some (.int .u32 x.f1) := blk_cell hb3 1
      have hs3 : w3.heap.size = w2.heap.size + 1 := by rw [← hw3]; simp
      have hYk := hY xs x #[.agg #[.int .u64 x.f0, .int .u32 x.f1]] (fun _ => False) w3 Mk (hJ _ _ _ _ hJ2 (hk3.mono (fun _ _ h => h.elim))) (by simp; omega) ⟨fun _ h => h, hxk, rfl⟩
        (fun i hi => ⟨by rcases (hMk i hi).1 with h | h; exact (hM i h).1; exact Nat.le_trans hw0 h, by have := (hMk i hi).2; omega⟩) (fun i h => h.elim) (by omega)
      obtain ⟨fn, tmps, assign, body, hy, hR⟩ := hYk
      gi_wp2
      refine ⟨rfl, hR.mono ?_⟩
      rintro e W3 ⟨M3, hM3, hk4, h4⟩
      have hbW : b < W.heap.size := hmW.lt
      have hbw := hm.lt
      have hMb : ¬ Mk b := fun h => by
        rcases (hMk b h).1 with z | z
        · have := (hM b z).1; omega
        · omega
      have hK13 : Kpt (fun i => Mk i ∨ i = W.heap.size) wr W3 := (hk2.trans hk3 (M := fun i => i = W.heap.size) (fun _ _ h => h.elim id False.elim)).trans hk4 (fun i hi h => by
        rcases h with h | h | h
        · exact .inr h
        · exact .inl h
        · exact h.elim)
      have hK03 : Kpt M W W3 := hkp.trans hK13 (fun i hi h => by
        rcases h with h | h | h
        · exact h
        · rcases (hMk i h).1 with z | z
          · exact z
          · omega
        · omega)
      have hMM : ∀ i, M3 i → (M i ∨ W.heap.size ≤ i) ∧ i < W3.heap.size := fun i hi => by
        refine ⟨?_, (hM3 i hi).2⟩
        rcases (hM3 i hi).1 with h | h | h
        · exact (hMk i h).1
        · exact h.elim
        · exact .inr (by omega)
      have hMr3 : ¬ M3 W.heap.size := fun h => by
        have hrl := hrg.lt
        rcases (hM3 _ h).1 with z | z | z
        · exact hMr z
        · exact z
        · omega
      rcases h4 with ⟨rfl, hJ3⟩ | ⟨rfl, hJ3⟩
      · have hrg3 : RangeIs nmK W3 b W.heap.size n f (fun z => todo z && !decide (z = x)) cnt2 := by
          have hrl2 := hrg2.lt
          refine hrg2.at ?_ ?_
          · exact (hk4.block b (by omega) (fun h => h.elim hMb id)).trans (hk3.block b (by have := hrg2.map.lt; omega) id)
          · exact (hk4.block _ (by omega) (fun h => h.elim hMr id)).trans (hk3.block _ hrl2 id)
        have hxn : x ∉ xs := fun h => by rw [hout x h] at htd; cases htd
        gi_wp2
        go_roundw
        case rel =>
          refine ⟨_, cnt2, xs ++ [x], M3, hrg3, by simp; omega, ?_, ?_, ?_, ?_, hJ3, hMM, hMr3, hK03⟩
          · rw [List.nodup_append]
            exact ⟨hnd, by simp, fun a ha c hc => by simp at hc; subst hc; exact fun e => hxn (e ▸ ha)⟩
          · intro a ha
            rcases List.mem_append.1 ha with h | h
            · exact hxok a h
            · simp at h; subst h; exact hxk
          · intro a ha
            rw [hin a ha]
            by_cases e : a = x
            · subst e; simp [htd]
            · simp [e]
          · intro a ha
            rcases List.mem_append.1 ha with h | h
            · simp [hout a h]
            · simp at h; subst h; simp
        case measure => rw [hrg3.left_eq, hrg.left_eq]; exact hlt
      · gi_wp2
        refine bodyPost_ret (results_none rfl _ _ _) rfl ?_
        exact ⟨⟨_, rfl⟩, M3, hMM, hK03, .inr ⟨_, by simp; omega, hJ3⟩⟩
end Go.Proofs.Ytfepfpcilmaojaa.QV
