/- How an argument that reads as data is opened into kinds (Kd) of the print's words: whole numbers, bools, strings, structs, arrays of two and three, slices of these, at any depth; with the bounds that the row's reach and its bulk give. -/
import Derived.Test.YtfepfpcilmaojaaRows
import Derived.Test.YtfepfpcilmaojaaWWords
import Derived.ProofKit
import Derived.OpenShut
import Derived.SizedLaws
namespace Go.Proofs.Ytfepfpcilmaojaa.Op
open Go.RowKit Go.Proofs.YtfepfpcilmaojaaW.PrintWords
set_option linter.unusedVariables false

def Opens {α : Type} (P : Program) (t : TypeId) (d : Kd α) (g : α → Prop) (m : α → Nat) : Prop :=
  ∀ {H : Type} (enc : TypeId × Value → H) (w : World) (base : Nat) (spare : Nat → Bool) (held : Bool) (fuel : Nat) (cs : List Value) (x : DataW H × List MemPlace),
    DataW.trod enc P w base spare held fuel t cs = some x → (∀ n ∈ x.1.weights P t, n ≤ reachBytes) → ∃ a, d.K w a cs ∧ g a ∧ m a ≤ Rows.uptoBulk x.1

theorem opens_int {P : Program} {t : TypeId} {k : IntKind} (ht : P.underlying t = some (.int k)) : Opens P t (Kd.int k) (fun n => (Lit.int k n).wf = true) (fun _ => 1) := by
  intro H enc w base spare held fuel cs x h _
  obtain ⟨n, rfl, rfl, hw⟩ := DataW.trod_int ht h
  exact ⟨n, rfl, hw, by simp [Rows.uptoBulk]⟩
theorem opens_bool {P : Program} {t : TypeId} (ht : P.underlying t = some .bool) : Opens P t Kd.bool (fun _ => True) (fun _ => 1) := by
  intro H enc w base spare held fuel cs x h _
  obtain ⟨b, rfl, rfl⟩ := DataW.trod_bool ht h
  exact ⟨b, rfl, trivial, by simp [Rows.uptoBulk]⟩
theorem opens_string {P : Program} {t : TypeId} (ht : P.underlying t = some .string) : Opens P t Kd.string (fun s => s.size ≤ 140737488351232) (fun s => s.size + 1) := by
  intro H enc w base spare held fuel cs x h hs
  obtain ⟨s, rfl, rfl, hw⟩ := DataW.trod_string ht h
  have hl : s.data.toList.length = s.size := by rw [Array.length_toList]; rfl
  refine ⟨s, rfl, ?_, by simp only [Rows.uptoBulk]; omega⟩
  have := hs s.data.toList.length (by simp [DataW.weights])
  rw [hl] at this
  exact this

theorem add_add (a : Addr) (m j : Nat) : (a.add m).add j = a.add (m + j) := by
  unfold Addr.add
  by_cases h1 : m = 0
  · subst h1; simp
  · by_cases h2 : j = 0
    · subst h2; simp [h1]
    · simp [h1, h2, Nat.add_assoc]
theorem cells_get {w : World} {base n : Nat} {a : Addr} {cs : List Value} (h : w.cells? base a n = some cs) : cs.length = n ∧ ∀ j u, cs[j]? = some u → w.cell? (a.add j) = some u := by
  unfold World.cells? at h
  split at h
  · have hl := mapM_some_length h
    refine ⟨by simpa using hl, fun j u hu => ?_⟩
    have hj : j < cs.length := (List.getElem?_eq_some_iff.1 hu).1
    have := mapM_some_get h j j (by rw [List.getElem?_range]; rw [hl] at hj; simpa using hj)
    rw [this]; exact hu
  · cases h

theorem bulkAll_mem {H : Type} : ∀ {l : List (DataW H)} {x : DataW H}, x ∈ l → Rows.uptoBulk x ≤ Rows.uptoBulkAll l
  | [], _, h => by simp at h
  | y :: r, x, h => by
    simp only [Rows.uptoBulkAll]
    rcases List.mem_cons.1 h with rfl | h
    · omega
    · have := bulkAll_mem h; omega
theorem weightsAll_mem {H : Type} {P : Program} {e : TypeId} : ∀ {l : List (DataW H)} {x : DataW H}, x ∈ l → ∀ n ∈ x.weights P e, n ∈ DataW.weightsAll P e l
  | [], _, h => by simp at h
  | y :: r, x, h => by
    intro n hn
    simp only [DataW.weightsAll, List.mem_append]
    rcases List.mem_cons.1 h with rfl | h
    · exact .inl hn
    · exact .inr (weightsAll_mem h n hn)

/-- One list of data against one list of values, element by element. -/
theorem all_open {α : Type} {H : Type} {K : α → List Value → Prop} {g : α → Prop} {m : α → Nat} {css : Nat → List Value → Prop} :
    ∀ (elems : List (DataW H × List MemPlace)) (o : Nat), (∀ i x, elems[i]? = some x → ∃ a cs, css (o + i) cs ∧ K a cs ∧ g a ∧ m a ≤ Rows.uptoBulk x.1) →
      ∃ zs : List α, zs.length = elems.length ∧ (∀ i a, zs[i]? = some a → ∃ cs, css (o + i) cs ∧ K a cs) ∧ (∀ a ∈ zs, g a) ∧ (zs.map m).sum ≤ Rows.uptoBulkAll (elems.map (·.1))
  | [], o, _ => ⟨[], rfl, by simp, by simp, by simp⟩
  | x :: r, o, h => by
    obtain ⟨a, cs, h1, h2, h3, h4⟩ := h 0 x rfl
    obtain ⟨zs, k1, k2, k3, k4⟩ := all_open (css := css) r (o + 1) (fun i y hy => by
      have := h (i + 1) y (by simpa using hy)
      rwa [show o + (i + 1) = o + 1 + i from by omega] at this)
    refine ⟨a :: zs, by simp [k1], fun i b hb => ?_, fun b hb => ?_, ?_⟩
    · cases i with
      | zero =>
        have : a = b := by simpa using hb
        subst this
        exact ⟨cs, h1, h2⟩
      | succ i =>
        have := k2 i b (by simpa using hb)
        rwa [show o + 1 + i = o + (i + 1) from by omega] at this
    · rcases List.mem_cons.1 hb with rfl | hb
      · exact h3
      · exact k3 b hb
    · simp only [List.map_cons, List.sum_cons, Rows.uptoBulkAll]
      omega

theorem opens_slice {P : Program} {t e : TypeId} {α : Type} {d : Kd α} {g : α → Prop} {m : α → Nat} (ht : P.underlying t = some (.slice e)) (hc : P.cellsOf e = d.sz) {B : Nat} (hB : P.bytesOf e = B) (he : Opens P e d g m) :
    Opens P t (Kd.slice e d) (fun xs => (∀ x ∈ xs, g x) ∧ xs.length ≤ 9223372036854775807 ∧ xs.length * B ≤ 140737488351232) (fun xs => (xs.map m).sum + 1) := by
  intro H enc w base spare held fuel cs x h hs
  rcases DataW.trod_slice ht h with ⟨rfl, rfl⟩ | ⟨a, len, cap, elems, rest, n, rfl, rfl, rfl, _, hl, hm, hel, hget, _⟩
  · exact ⟨[], ⟨none, 0, rfl, Nat.le_refl _, Kd.C_nil d w⟩, by simp, by simp [Rows.uptoBulk]⟩
  · have hw : ∀ y ∈ elems, ∀ n ∈ y.1.weights P e, n ≤ reachBytes := fun y hy n hn => hs n (by
      simp only [DataW.weights, ht, List.mem_cons, List.mem_append]
      exact .inr (.inl (weightsAll_mem (List.mem_map_of_mem hy) n hn)))
    have hlen : (elems.map (·.1)).length + (rest.map (·.1)).length = elems.length + rest.length := by simp
    have hb := hs _ (by simp only [DataW.weights, ht, List.mem_cons]; exact .inl rfl)
    rw [hlen, hB] at hb
    obtain ⟨zs, k1, k2, k3, k4⟩ := all_open (K := d.K w) (g := g) (m := m) (css := fun i cs => w.cells? base (a.add (i * d.sz)) d.sz = some cs) elems 0 (fun i y hy => by
      have hi : i < len := by rw [← hel]; exact (List.getElem?_eq_some_iff.1 hy).1
      have hg := hget i hi
      rw [hy, hc] at hg
      obtain ⟨cs, h1, h2⟩ := Option.bind_eq_some_iff.1 hg
      obtain ⟨b, h3, h4, h5⟩ := he enc w base spare held n cs y h2 (hw y (List.mem_of_getElem? hy))
      exact ⟨b, cs, by simpa using h1, h3, h4, h5⟩)
    have hle : zs.length * B ≤ 140737488351232 := by
      rw [k1]
      exact Nat.le_trans (Nat.mul_le_mul_right _ (Nat.le_add_right _ _)) hb
    have hmax : zs.length ≤ 9223372036854775807 := by
      rw [k1, hel]; unfold maxLen at hm; omega
    refine ⟨zs, ⟨some a, cap, by rw [k1, hel], by rw [k1, hel]; exact hl, rfl, hmax, fun _ => ⟨a, rfl, fun j p hj => ?_⟩⟩, ⟨k3, hmax, hle⟩, ?_⟩
    · obtain ⟨cs, h1, h2⟩ := k2 j p hj
      obtain ⟨h3, h4⟩ := cells_get h1
      simp only [Nat.zero_add] at h4
      exact ⟨cs, h3, h2, fun i u hu => by rw [← add_add]; exact h4 i u hu⟩
    · simp only [Rows.uptoBulk]; omega

/-- A struct's fields from place o on. -/
def OpensF {α : Type} (P : Program) (fs : List Field) (o : Nat) (d : Kd α) (g : α → Prop) (m : α → Nat) : Prop :=
  ∀ {H : Type} (enc : TypeId × Value → H) (w : World) (base : Nat) (spare : Nat → Bool) (held : Bool) (fuel : Nat) (cs : List Value) (xs : List (DataW H × List MemPlace)),
    xs.length = fs.length → (∀ (i : Nat) (f : Field), fs[i]? = some f → DataW.trod enc P w base spare held fuel f.type ((cs.drop f.offset).take (P.cellsOf f.type)) = xs[i]?) → cs.length = o + d.sz →
      (∀ n ∈ DataW.weightsEach P (fs.map (·.type)) (xs.map (·.1)), n ≤ reachBytes) → ∃ a, d.K w a (cs.drop o) ∧ g a ∧ m a ≤ Rows.uptoBulkAll (xs.map (·.1))
theorem opensF_last {P : Program} {f : Field} {o : Nat} {α : Type} {d : Kd α} {g : α → Prop} {m : α → Nat} (ho : f.offset = o) (hc : P.cellsOf f.type = d.sz) (h : Opens P f.type d g m) : OpensF P [f] o d g m := by
  intro H enc w base spare held fuel cs xs hl hget hcs hs
  match xs, hl with
  | [x], _ =>
    have h1 := hget 0 f rfl
    simp only [List.getElem?_cons_zero, ho, hc] at h1
    rw [List.take_of_length_le (by rw [List.length_drop]; omega)] at h1
    obtain ⟨a, k1, k2, k3⟩ := h enc w base spare held fuel _ x h1 (fun n hn => hs n (by simp only [List.map_cons, DataW.weightsEach, List.mem_append]; exact .inl hn))
    exact ⟨a, k1, k2, by simp only [List.map_cons, Rows.uptoBulkAll]; omega⟩
theorem opensF_cons {P : Program} {f : Field} {fs : List Field} {o o' : Nat} {α β : Type} {d : Kd α} {g : α → Prop} {m : α → Nat} {d' : Kd β} {g' : β → Prop} {m' : β → Nat} (ho : f.offset = o) (hc : P.cellsOf f.type = d.sz) (hoo : o + d.sz = o')
    (h : Opens P f.type d g m) (h' : OpensF P fs o' d' g' m') : OpensF P (f :: fs) o (Kd.pair d d') (fun x => g x.1 ∧ g' x.2) (fun x => m x.1 + m' x.2) := by
  intro H enc w base spare held fuel cs xs hl hget hcs hs
  match xs, hl with
  | x :: r, hl =>
    have hsz : (Kd.pair d d').sz = d.sz + d'.sz := rfl
    rw [hsz] at hcs
    have h1 := hget 0 f rfl
    simp only [List.getElem?_cons_zero, ho, hc] at h1
    obtain ⟨a, k1, k2, k3⟩ := h enc w base spare held fuel _ x h1 (fun n hn => hs n (by simp only [List.map_cons, DataW.weightsEach, List.mem_append]; exact .inl hn))
    obtain ⟨b, q1, q2, q3⟩ := h' enc w base spare held fuel cs r (by simpa using hl) (fun (i : Nat) (f : Field) hf => by simpa using hget (i + 1) f (by simpa using hf)) (by omega) (fun n hn => hs n (by simp only [List.map_cons, DataW.weightsEach, List.mem_append]; exact .inr hn))
    refine ⟨(a, b), ⟨(cs.drop o).take d.sz, cs.drop o', ?_, k1, q1⟩, ⟨k2, q2⟩, by simp only [List.map_cons, Rows.uptoBulkAll]; omega⟩
    rw [← hoo, ← List.drop_drop, List.take_append_drop]
theorem opens_struct {P : Program} {t : TypeId} {fs : Array Field} {α : Type} {d : Kd α} {g : α → Prop} {m : α → Nat} (ht : P.underlying t = some (.struct fs)) (hc : P.cellsOf t = d.sz) (h : OpensF P fs.toList 0 d g m) : Opens P t d g m := by
  intro H enc w base spare held fuel cs x hx hs
  obtain ⟨xs, n, rfl, rfl, hl, hxl, hget⟩ := DataW.trod_struct ht hx
  obtain ⟨a, h1, h2, h3⟩ := h enc w base spare held n cs xs (by simpa using hxl) (fun i f hf => hget i f (by simpa using hf)) (by omega) (fun n hn => hs n (by simpa only [DataW.weights, ht] using hn))
  refine ⟨a, by simpa using h1, h2, ?_⟩
  simp only [Rows.uptoBulk]
  omega
theorem opens_iso {P : Program} {t : TypeId} {α β : Type} {d : Kd α} {g : α → Prop} {m : α → Nat} {f : β → α} {b : α → β} (hfb : ∀ x, f (b x) = x) (h : Opens P t d g m) : Opens P t (Kd.iso d f) (fun x => g (f x)) (fun x => m (f x)) := by
  intro H enc w base spare held fuel cs x hx hs
  obtain ⟨a, h1, h2, h3⟩ := h enc w base spare held fuel cs x hx hs
  exact ⟨b a, by show d.K w (f (b a)) cs; rw [hfb]; exact h1, by show g (f (b a)); rw [hfb]; exact h2, by show m (f (b a)) ≤ _; rw [hfb]; exact h3⟩
theorem opens_mono {P : Program} {t : TypeId} {α : Type} {d : Kd α} {g g' : α → Prop} {m m' : α → Nat} (hg : ∀ x, g x → g' x) (hm : ∀ x, m' x ≤ m x) (h : Opens P t d g m) : Opens P t d g' m' := by
  intro H enc w base spare held fuel cs x hx hs
  obtain ⟨a, h1, h2, h3⟩ := h enc w base spare held fuel cs x hx hs
  exact ⟨a, h1, hg a h2, Nat.le_trans (hm a) h3⟩
theorem weightsAll_all {H : Type} {P : Program} {e : TypeId} {l : List (DataW H)} {x : DataW H} (h : ∀ n ∈ DataW.weightsAll P e l, n ≤ reachBytes) (hx : x ∈ l) : ∀ n ∈ x.weights P e, n ≤ reachBytes := fun n hn => h n (weightsAll_mem hx n hn)
theorem opens_array2 {P : Program} {t e : TypeId} {α : Type} {d : Kd α} {g : α → Prop} {m : α → Nat} (ht : P.underlying t = some (.array 2 e)) (hc : P.cellsOf e = d.sz) (hct : P.cellsOf t = 2 * d.sz) (he : Opens P e d g m) :
    Opens P t (Kd.pair d d) (fun x => g x.1 ∧ g x.2) (fun x => m x.1 + m x.2) := by
  intro H enc w base spare held fuel cs x hx hs
  obtain ⟨xs, n, rfl, rfl, hl, hxl, hget⟩ := DataW.trod_array ht hx
  match xs, hxl with
  | [x0, x1], _ =>
    have hw : ∀ n ∈ DataW.weightsAll P e [x0.1, x1.1], n ≤ reachBytes := fun n hn => hs n (by simpa only [DataW.weights, ht, List.map_cons, List.map_nil] using hn)
    have g0 := hget 0 (by omega)
    have g1 := hget 1 (by omega)
    simp only [List.getElem?_cons_zero, List.getElem?_cons_succ, hc, Nat.zero_mul, List.drop_zero, Nat.one_mul] at g0 g1
    obtain ⟨a, k1, k2, k3⟩ := he enc w base spare held n _ x0 g0 (weightsAll_all hw (by simp))
    obtain ⟨b, q1, q2, q3⟩ := he enc w base spare held n _ x1 g1 (weightsAll_all hw (by simp))
    refine ⟨(a, b), ⟨cs.take d.sz, (cs.drop d.sz).take d.sz, ?_, k1, q1⟩, ⟨k2, q2⟩, by simp only [Rows.uptoBulk, List.map_cons, List.map_nil, Rows.uptoBulkAll]; omega⟩
    rw [List.take_of_length_le (l := cs.drop d.sz) (by rw [List.length_drop]; omega), List.take_append_drop]
theorem opens_array3 {P : Program} {t e : TypeId} {α : Type} {d : Kd α} {g : α → Prop} {m : α → Nat} (ht : P.underlying t = some (.array 3 e)) (hc : P.cellsOf e = d.sz) (hct : P.cellsOf t = 3 * d.sz) (he : Opens P e d g m) :
    Opens P t (Kd.pair d (Kd.pair d d)) (fun x => g x.1 ∧ g x.2.1 ∧ g x.2.2) (fun x => m x.1 + (m x.2.1 + m x.2.2)) := by
  intro H enc w base spare held fuel cs x hx hs
  obtain ⟨xs, n, rfl, rfl, hl, hxl, hget⟩ := DataW.trod_array ht hx
  match xs, hxl with
  | [x0, x1, x2], _ =>
    have hw : ∀ n ∈ DataW.weightsAll P e [x0.1, x1.1, x2.1], n ≤ reachBytes := fun n hn => hs n (by simpa only [DataW.weights, ht, List.map_cons, List.map_nil] using hn)
    have g0 := hget 0 (by omega)
    have g1 := hget 1 (by omega)
    have g2 := hget 2 (by omega)
    simp only [List.getElem?_cons_zero, List.getElem?_cons_succ, hc, Nat.zero_mul, List.drop_zero, Nat.one_mul] at g0 g1 g2
    obtain ⟨a, k1, k2, k3⟩ := he enc w base spare held n _ x0 g0 (weightsAll_all hw (by simp))
    obtain ⟨b, q1, q2, q3⟩ := he enc w base spare held n _ x1 g1 (weightsAll_all hw (by simp))
    obtain ⟨c, p1, p2, p3⟩ := he enc w base spare held n _ x2 g2 (weightsAll_all hw (by simp))
    refine ⟨(a, b, c), ⟨cs.take d.sz, (cs.drop d.sz).take d.sz ++ (cs.drop (2 * d.sz)).take d.sz, ?_, k1, _, _, rfl, q1, p1⟩, ⟨k2, q2, p2⟩, by simp only [Rows.uptoBulk, List.map_cons, List.map_nil, Rows.uptoBulkAll]; omega⟩
    rw [List.take_of_length_le (l := cs.drop (2 * d.sz)) (by rw [List.length_drop]; omega), show 2 * d.sz = d.sz + d.sz from by omega, ← List.drop_drop, List.take_append_drop, List.take_append_drop]
theorem len_le_sum {α : Type} {m : α → Nat} (h : ∀ x, 1 ≤ m x) : ∀ l : List α, l.length ≤ (l.map m).sum
  | [] => by simp
  | x :: l => by have := h x; have := len_le_sum h l; simp only [List.length_cons, List.map_cons, List.sum_cons]; omega
theorem mem_le_sum {α : Type} {m : α → Nat} {x : α} : ∀ {l : List α}, x ∈ l → m x ≤ (l.map m).sum
  | [], h => by simp at h
  | y :: l, h => by
    simp only [List.map_cons, List.sum_cons]
    rcases List.mem_cons.1 h with rfl | h
    · omega
    · have := mem_le_sum (m := m) h; omega
theorem wf_i64 {n : Int} (h : (Lit.int .i64 n).wf = true) : -9223372036854775808 ≤ n ∧ n ≤ 9223372036854775807 := by
  simpa [Lit.wf, IntKind.min, IntKind.max, IntKind.signed, IntKind.bits] using h
end Go.Proofs.Ytfepfpcilmaojaa.Op
