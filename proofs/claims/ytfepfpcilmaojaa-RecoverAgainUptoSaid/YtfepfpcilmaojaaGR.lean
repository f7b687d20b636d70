/- The contracts of recover's functions in the print's form. -/
import Derived.Test.YtfepfpcilmaojaaMissing
namespace Go.Proofs.Ytfepfpcilmaojaa.QV
open Go.RowKit Go.Proofs.YtfepfpcilmaojaaW.PrintWords Go.Proofs.Ytfepfpcilmaojaa.Mp
set_option linter.unusedVariables false
def recover_Upto.f (l : List Ver) (ep : Int) : Option (List Ver) := if okV l = true then some (uptoL l ep) else none
def recover_Changes.f (l : List Ver) (since ep : Int) : Option (List Ver) := if okV l = true then some (changesL l since ep) else none
def recover_Merged.f (l m : List Ver) : Option (List Ver) := if okV l = true ∧ okV m = true ∧ (nmsL (l.map (·.f0) ++ m.map (·.f0))).length * 48 ≤ 140737488355328 then some (mergedL l m) else none
def sokB (k : Sg) : Bool := (Lit.int .i64 k.f0).wf && (Lit.int .i64 k.f1).wf
theorem sokB_iff (k : Sg) : sokB k = true ↔ Sok k := by unfold sokB Sok; rw [Bool.and_eq_true]
def recover_Missing.f (l : List Sg) (m : List Hd) : Option (List Sg) := if l.all sokB = true ∧ m.all (fun h => sokB h.f0) = true ∧ l.length * 16 ≤ 140737488355328 ∧ m.length < 9223372036854775807 then some (l.filter (fun k => !heldB m k)) else none
theorem recover_Upto.calls (A : Option Addr) (c : Nat) (l : List Ver) (ep : Int) (r : List Ver) (w : World) (hr : kVer.C w A l.length l) (hc : l.length ≤ c) (h : recover_Upto.f l ep = some r) :
    Calls Try.prog 11 #[.slice A l.length c, .int .u64 ep] w fun e w' => ∃ v, e = .returned v ∧ Kd.S kVer tVer w' w.heap.size (fun _ => True) v r ∧ Below w.heap.size w w' := by
  unfold recover_Upto.f at h
  split at h
  · rename_i hk
    obtain ⟨h1, h2, h3⟩ := (okV_iff l).1 hk
    cases h
    refine (upto_any A l c ep w hr hc h1 h3 h2).mono ?_
    rintro e w' ⟨v, L, wb, rfl, hT, hL, hBb, hO, hB⟩
    obtain rfl := told_eq hT (uptoL_is l ep h1)
    exact ⟨v, rfl, Kd.S_lower hO.S hBb.size, hB⟩
  · cases h
theorem recover_Changes.calls (A : Option Addr) (c : Nat) (l : List Ver) (since ep : Int) (r : List Ver) (w : World) (hr : kVer.C w A l.length l) (hc : l.length ≤ c) (h : recover_Changes.f l since ep = some r) :
    Calls Try.prog 12 #[.slice A l.length c, .int .u64 since, .int .u64 ep] w fun e w' => ∃ v, e = .returned v ∧ Kd.S kVer tVer w' w.heap.size (fun _ => True) v r ∧ Below w.heap.size w w' := by
  unfold recover_Changes.f at h
  split at h
  · rename_i hk
    obtain ⟨h1, h2, h3⟩ := (okV_iff l).1 hk
    cases h
    refine (changes_any A l c since ep w hr hc h1 h3 h2).mono ?_
    rintro e w' ⟨v, L, rfl, hT, hL, hS, hB⟩
    obtain rfl := told_eq hT (uptoL_is l ep h1)
    exact ⟨v, rfl, hS, hB⟩
  · cases h
theorem recover_Merged.calls (A0 : Option Addr) (c0 : Nat) (l : List Ver) (A1 : Option Addr) (c1 : Nat) (m : List Ver) (r : List Ver) (w : World) (hr0 : kVer.C w A0 l.length l) (hc0 : l.length ≤ c0) (hr1 : kVer.C w A1 m.length m) (hc1 : m.length ≤ c1) (h : recover_Merged.f l m = some r) :
    Calls Try.prog 17 #[.slice A0 l.length c0, .slice A1 m.length c1] w fun e w' => ∃ v, e = .returned v ∧ Kd.S kVer tVer w' w.heap.size (fun _ => True) v r ∧ Below w.heap.size w w' := by
  unfold recover_Merged.f at h
  split at h
  · rename_i hk
    obtain ⟨hk0, hk1, hk2⟩ := hk
    obtain ⟨h1, h2, h3⟩ := (okV_iff l).1 hk0
    obtain ⟨g1, g2, g3⟩ := (okV_iff m).1 hk1
    cases h
    refine (merged_any A0 c0 l A1 c1 m w hr0 hc0 hr1 hc1 h1 g1 h3 g3 (nmsL (l.map (·.f0) ++ m.map (·.f0))) (fun k hne => (nmsL_mem _ _).2 (mergedF_names l m k (by cases h : mergedF l m k with | none => exact absurd h hne | some x => rfl))) hk2 h2 g2).mono ?_
    rintro e w' ⟨v, L, rfl, hT, hL, hS, hB⟩
    obtain rfl := told_eq hT (mergedL_is l m h1 g1)
    exact ⟨v, rfl, hS, hB⟩
  · cases h
theorem recover_Missing.calls (A0 : Option Addr) (c0 : Nat) (l : List Sg) (A1 : Option Addr) (c1 : Nat) (m : List Hd) (r : List Sg) (w : World) (hr0 : kSg.C w A0 l.length l) (hc0 : l.length ≤ c0) (hr1 : kHd.C w A1 m.length m) (hc1 : m.length ≤ c1) (h : recover_Missing.f l m = some r) :
    Calls Try.prog 23 #[.slice A0 l.length c0, .slice A1 m.length c1] w fun e w' => ∃ v, e = .returned v ∧ kSg.R tSg w' w.heap.size (fun _ => True) v r ∧ Below w.heap.size w w' := by
  unfold recover_Missing.f at h
  split at h
  · rename_i hk
    obtain ⟨h1, h2, h3, h4⟩ := hk
    cases h
    exact missing_any A0 c0 l A1 c1 m w hr0 hc0 hr1 hc1 (fun x hx => (sokB_iff x).1 (List.all_eq_true.1 h1 x hx)) (fun x hx => (sokB_iff x.f0).1 (List.all_eq_true.1 h2 x hx)) h3 h4
  · cases h
end Go.Proofs.Ytfepfpcilmaojaa.QV
