/- slices.SortFunc of a row of names of one's own, by recover.order; slices.SortedFunc. -/
import Derived.Test.YtfepfpcilmaojaaOrd
import Derived.Test.YtfepfpcilmaojaaCollect
import Derived.Test.YtfepfpcilmaojaaShelf
import Derived.Sort.OwnSorted
namespace Go.Proofs.Ytfepfpcilmaojaa.QV
open Go.RowKit Go.Proofs.YtfepfpcilmaojaaW.PrintWords Go.Proofs.Ytfepfpcilmaojaa.Seq Go.Proofs.Ytfepfpcilmaojaa.Mp Go.Shelf Go.Sort
set_option linter.unusedVariables false
set_option linter.unusedSimpArgs false
theorem flat_get {α : Type} [Inhabited α] (enc : α → List Value) (k : Nat) (hk : ∀ x, (enc x).length = k) (h0 : 0 < k) : ∀ (l : List α) (t : Nat), t < l.length * k → (l.flatMap enc)[t]? = some ((enc l[t / k]!)[t % k]!)
  | [], t, h => by simp at h
  | x :: l, t, h => by
    rw [List.flatMap_cons]
    by_cases ht : t < k
    · rw [List.getElem?_append_left (by rw [hk]; exact ht), Nat.div_eq_of_lt ht, Nat.mod_eq_of_lt ht]
      simp [hk, ht]
    · rw [List.getElem?_append_right (by rw [hk]; omega), hk, flat_get enc k hk h0 l (t - k) (by simp [Nat.add_mul] at h; omega)]
      have e1 : t / k = (t - k) / k + 1 := by
        rw [Nat.div_eq_sub_div h0 (by omega)]
      have e2 : t % k = (t - k) % k := Nat.mod_eq_sub_mod (by omega)
      rw [e1, e2]; simp
theorem flatK_list {α : Type} [Inhabited α] (enc : α → List Value) (k : Nat) (hk : ∀ x, (enc x).length = k) (h0 : 0 < k) (l : List α) : (flatK enc k l.toArray).toList = l.flatMap enc := by
  apply List.ext_getElem?
  intro t
  by_cases h : t < l.length * k
  · rw [flat_get enc k hk h0 l t h, Array.getElem?_toList]
    simp [flatK, h]
  · have hl : (l.flatMap enc).length = l.length * k := by
      clear h
      induction l with
      | nil => simp
      | cons x l ih => rw [List.flatMap_cons, List.length_append, hk, ih]; simp [Nat.add_mul]; omega
    rw [List.getElem?_eq_none (by simp [flatK]; omega), List.getElem?_eq_none (by rw [hl]; omega)]
theorem holdsK_block {α : Type} [Inhabited α] {enc : α → List Value} {k : Nat} (hk : ∀ x, (enc x).length = k) (h0 : 0 < k) {w : World} {g : Nat} {cur : Array Value} {e : TypeId} {l : List α} (hb : w.heap[g]? = some (.cells cur e (0, 0))) (ht : cur.toList.take (l.length * k) = l.flatMap enc) : HoldsK enc k w g 0 l.toArray := by
  intro j hj
  have hj' : j < l.length * k := by simpa using hj
  refine ⟨?_, by simp [World.frozen?, hb]⟩
  have h1 : (cur.toList.take (l.length * k))[j]? = (flatK enc k l.toArray).toList[j]? := by rw [ht, flatK_list enc k hk h0]
  rw [List.getElem?_take_of_lt hj'] at h1
  simp only [World.cell?, hb, Nat.zero_add]
  simp only [Option.isSome_none, Bool.false_eq_true, if_false]
  rw [← Array.getElem?_toList, h1]
  simp [flatK, hj']
theorem heap_sortedK {w : World} {g n : Nat} {os : Array Obj} {cur : Array Value} {e : TypeId} {fr : Nat × Nat} (F : Array Value) (hb : w.heap[g]? = some (.cells cur e fr)) :
    (grow (putRow id (Sort.ahead w n) g 0 F) os).heap[g]? = some (.cells (putCells id 0 F cur) e fr) := by
  have hg : g < w.heap.size := (Array.getElem?_eq_some_iff.1 hb).1
  rw [heap_grow_old _ _ (by simpa using hg)]
  simp [putRow, mapBlock, Sort.ahead, Array.getElem?_modify, hb, onCells]
theorem grownBy_sortedK {w : World} {g n : Nat} {os : Array Obj} (F : Array Value) : w.grownBy (grow (putRow id (Sort.ahead w n) g 0 F) os) (some g) := by
  refine ⟨rfl, rfl, rfl, by simp, fun k hk hne => ?_⟩
  rw [heap_grow_old _ _ (by simpa using hk)]
  have : g ≠ k := fun e => hne (by rw [e])
  simp [putRow, mapBlock, Sort.ahead, Array.getElem?_modify, this]
theorem take_putCellsK (cur F : Array Value) (h : F.size ≤ cur.size) : (putCells id 0 F cur).toList.take F.size = F.toList := by
  apply List.ext_getElem?
  intro j
  by_cases hj : j < F.size
  · rw [List.getElem?_take_of_lt hj, Array.getElem?_toList]
    simp [putCells, hj, show j < cur.size by omega]
  · rw [List.getElem?_take_eq_none (by omega), List.getElem?_eq_none (by simp; omega)]
/-- Behind the sort the same slice owns the sorted list. -/
theorem ownsRow_sortedK {α : Type} [Inhabited α] {enc : α → List Value} {k : Nat} (hk : ∀ x, (enc x).length = k) (h0 : 0 < k) {w : World} {base g cap n : Nat} {e : TypeId} {os : Array Obj} {cur : Array Value} {l l' : List α} (hl : l'.length = l.length) (hbase : base ≤ g) (hb : w.heap[g]? = some (.cells cur e (0, 0)))
    (h1 : l.length ≤ cap) (h2 : cap ≤ maxLen) (h3 : cur.size = cap * k) :
    (grow (putRow id (Sort.ahead w n) g 0 (flatK enc k l'.toArray)) os).ownsRow base e k (.slice (some ⟨g, 0, none⟩) l.length cap) l.length (l'.flatMap enc) := by
  have hsz : (flatK enc k l'.toArray).size = l.length * k := by simp [hl]
  have hle : l.length * k ≤ cap * k := Nat.mul_le_mul_right k h1
  refine ⟨?_, .inr ⟨g, cap, _, rfl, hbase, heap_sortedK _ hb, h1, h2, by simp [putCells, h3], ?_⟩⟩
  · rw [← flatK_list enc k hk h0 l', Array.length_toList, hsz]
  · rw [← hsz, take_putCellsK cur _ (by rw [hsz, h3]; exact hle), flatK_list enc k hk h0]

instance : Inhabited Nm := ⟨⟨0, 0⟩⟩
theorem cmpNm_neg (a b : Nm) : cmpNm a b < 0 ↔ (a.f0 < b.f0 ∨ (a.f0 = b.f0 ∧ a.f1 < b.f1)) := by
  unfold cmpNm cU
  (repeat split) <;> omega
theorem swoNm : SWO (ltOf cmpNm) where
  irrefl x := by simp only [ltOf, decide_eq_false_iff_not, cmpNm_neg]; omega
  trans x y z := by simp only [ltOf, decide_eq_true_eq, cmpNm_neg]; omega
  ntrans x y z := by simp only [ltOf, decide_eq_false_iff_not, cmpNm_neg]; omega
theorem cmpLays (blk off size : Nat) (w : World) : CmpLays Try.prog 40 #[] nmC 2 cmpNm blk off size w := by
  intro m os dk hs x y
  exact (order_any x y _).mono (fun e w' h => ⟨h.1, h.2⟩)
theorem aggNm (w : World) : (isAgg tNm).run Try.prog w = .ok true w := Try.isAgg31 w
theorem sizeNm (w : World) : (Go.sizeOf tNm).run Try.prog w = .ok 2 w := Try.sizeOf31 w
/-- Rising, each once or more. -/
def Rising (ys : List Nm) : Prop := ys.Pairwise (fun a b => ¬ cmpNm b a < 0)

set_option maxHeartbeats 2000000 in
theorem insertion_none (p : Option Addr) (cap : Nat) (fv : Value) (w : World) :
    Calls Try.prog 57 #[.slice p 0 cap, .int .i64 0, .int .i64 0, fv] w fun e w' => e = .returned (.tuple #[]) ∧ w' = w := by
  go_enter Try.func57, Try.ntmps57
  go_wp2
  refine wp_loop_rounds 1 ?_
  rw [rounds_succ]
  go_wp2
  go_end0
  exact ⟨rfl, rfl⟩
set_option maxHeartbeats 2000000 in
theorem pdq_none (p : Option Addr) (cap : Nat) (lim : Int) (fv : Value) (w : World) :
    Calls Try.prog 55 #[.slice p 0 cap, .int .i64 0, .int .i64 0, .int .i64 lim, fv] w fun e w' => e = .returned (.tuple #[]) ∧ w' = w := by
  go_enter Try.func55, Try.ntmps55
  go_wp2
  refine wp_loop_rounds 1 ?_
  rw [rounds_succ]
  go_wp2_with (go_at_call 57; refine (insertion_none _ _ _ _).mono ?_; rintro e w' ⟨rfl, rfl⟩)
  (try simp only [Exit.inBlock, Exit.then]); refine bodyPost_ret (results_none rfl _ _ _) rfl ?_
  exact ⟨rfl, rfl⟩
set_option maxHeartbeats 2000000 in
theorem sort_none (p : Option Addr) (cap : Nat) (fv : Value) (w : World) :
    Calls Try.prog 50 #[.slice p 0 cap, fv] w fun e w' => e = .returned (.tuple #[]) ∧ w' = w := by
  have hl : ∀ W, Calls Try.prog 56 #[.int .u64 0] W fun e w' => e = .returned (.int .i64 (Lib.bitLen 0 : Nat)) ∧ w' = W := fun W => Try.bits_Len 0 W (by omega) (by omega)
  go_enter Try.func50, Try.ntmps50
  go_wp2_with (first | (go_at_call 56; refine (hl _).mono ?_; rintro e w' ⟨rfl, rfl⟩) | (go_at_call 55; refine (pdq_none _ _ _ _ _).mono ?_; rintro e w' ⟨rfl, rfl⟩))
  go_end0
  exact ⟨rfl, rfl⟩
set_option maxHeartbeats 2000000 in
theorem sort_any (v : Value) (xs : List Nm) (b0 : Nat) (w : World) (hv : w.ownsRow b0 tNm 2 v xs.length (xs.flatMap nmC)) (hn : xs.length < 4611686018427387904) :
    Calls Try.prog 50 #[v, .func (.func 40) #[] #[]] w fun e w' => e = .returned (.tuple #[]) ∧ ∃ ys, ys.Perm xs ∧ Rising ys ∧ w'.ownsRow b0 tNm 2 v xs.length (ys.flatMap nmC) ∧ w.grownBy w' v.ownBlock := by
  have hk : ∀ x, (nmC x).length = 2 := fun _ => rfl
  rcases hv.2 with ⟨rfl, h0⟩ | ⟨g, cap, cur, rfl, hbase, hb, h1, h2, h3, h4⟩
  · obtain rfl : xs = [] := List.eq_nil_of_length_eq_zero h0
    refine (sort_none none 0 _ w).mono ?_
    rintro e w' ⟨rfl, rfl⟩
    exact ⟨rfl, [], List.Perm.refl _, List.Pairwise.nil, hv, ⟨rfl, rfl, rfl, Nat.le_refl _, fun _ _ _ => rfl⟩⟩
  · have hH : HoldsK nmC 2 w g 0 xs.toArray := holdsK_block hk (by omega) hb h4
    have hc := Try.slices_SortFunc 2 aggNm sizeNm nmC hk (by intro x v hv; simp [nmC] at hv; rcases hv with rfl | rfl <;> rfl) cmpNm swoNm 40 #[] g 0 cap xs.toArray w (fun args w => by kernel_rfl) (cmpLays _ _ _ _) hH (Array.getElem?_eq_some_iff.1 hb).1 (by simpa using hn)
    rw [List.size_toArray] at hc
    refine hc.mono ?_
    rintro e w' ⟨rfl, d', n, os, ⟨p1, p2, p3⟩, hs, rfl⟩
    have hsz : d'.toList.length = xs.length := by simpa using p1
    refine ⟨rfl, d'.toList, ?_, ?_, ?_, ?_⟩
    · have e1 : d'.extract 0 xs.length = d' := by rw [← hsz, Array.length_toList]; exact Array.extract_size
      have e2 : xs.toArray.extract 0 xs.length = xs.toArray := by
        have : xs.length = xs.toArray.size := by simp
        rw [this]; exact Array.extract_size
      rw [e1, e2] at p3
      simpa using p3
    · rw [Rising, List.pairwise_iff_getElem]
      intro i j hi hj hij
      have h := hs i j (Nat.zero_le _) hij (by omega)
      rw [getElem!_pos d' j (by simpa using hj), getElem!_pos d' i (by simpa using hi)] at h
      simpa [ltOf] using h
    · have := ownsRow_sortedK (n := n) (os := os) (e := tNm) hk (by omega) hsz hbase hb h1 h2 h3
      simpa [sortWorldK, putRowK] using this
    · exact grownBy_sortedK _

set_option maxHeartbeats 1000000 in
theorem sorted_any (g : Nat) (lb : Array Value) (n : Nat) (En : List Nm → Prop) (w0 w : World) (eg : ∀ args w, (callFunc g args).run Try.prog w = .ok (.enter g args) w)
    (hseq : SeqP Try.prog g lb RdNm (fun pre => pre.length ≤ n) En w0) (hb0 : Below w0.heap.size w0 w) (hn : n * 16 ≤ 140737488355328) (hen : ∀ xs, En xs → xs.length ≤ n) :
    Calls Try.prog 44 #[.func (.func g) #[] lb, .func (.func 40) #[] #[]] w fun e w' => ∃ v xs ys, e = .returned v ∧ En xs ∧ ys.Perm xs ∧ Rising ys ∧ w'.ownsRow w.heap.size tNm 2 v ys.length (ys.flatMap nmC) ∧ Below w.heap.size w w' := by
  go_enter Try.func44, Try.ntmps44
  go_wp2_with (go_at_call 49; refine (collect_any g lb n En w0 _ eg hseq hb0 hn).mono ?_; rintro e w1 ⟨v, xs, rfl, hE, ho, hB⟩)
  have hxn := hen xs hE
  obtain ⟨A, c, rfl⟩ := own_slice ho
  go_wp2_with (go_at_call 50; refine (sort_any _ xs w.heap.size _ ho (by omega)).mono ?_; rintro e w2 ⟨rfl, ys, hp, hr, ho2, hg2⟩)
  go_ret
  refine ⟨_, xs, ys, rfl, hE, hp, hr, by rw [hp.length_eq]; exact ho2, hB.grown hg2 hB.size (fun k e => own_base ho k e)⟩
end Go.Proofs.Ytfepfpcilmaojaa.QV
