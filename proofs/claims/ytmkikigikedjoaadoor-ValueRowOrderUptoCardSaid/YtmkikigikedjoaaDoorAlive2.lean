/- Layer 2: what every law asks first (alive). -/
import Derived.Test.YtmkikigikedjoaaDoorRight
import Derived.Lib.LaidTab
namespace Go.Proofs.YtmkikigikedjoaaDoor.Op
open Go.RowKit Go.Proofs.YtmkikigikedjoaaDoorW.PrintWords
set_option linter.unusedVariables false
set_option linter.unusedSimpArgs false

/-- The table of tens, as the shelf's contract of FormatInt asks for it. -/
def Tb (w : World) : Prop := Lib.TabIs Tryd.prog w "internal/strconv.uint64pow10" .u64 Lib.pow10Tab
theorem Tb.below {w w' : World} (h : Tb w) (hb : Below w.heap.size w w') : Tb w' := by
  have hg : Tryd.prog.globalNamed "internal/strconv.uint64pow10" = some 3 := by kernel_rfl
  simp only [Tb, Lib.TabIs, World.var?, hg, Option.bind_some] at h ⊢
  by_cases hl : 3 < w.heap.size
  · rw [hb.block _ hl]; exact h
  · rw [Array.getElem?_eq_none (by omega)] at h; cases h
theorem below_grow2 (w : World) (k : Nat) (os : Array Obj) : Below w.heap.size w (Sort.grow (w.drewN k) os) :=
  ⟨rfl, rfl, rfl, by simp [Sort.grow, World.drewN], fun i hi => by simp only [Sort.grow, World.drewN]; rw [Array.getElem?_append_left hi]⟩

theorem itoa_m5 : (Lib.itoa (-5)).toArray = #[45, 53] := by
  first
    | (simp [Lib.itoa, Lib.decDigits]; done)
    | (unfold Lib.itoa; rw [Lib.decDigits]; simp; done)
    | kernel_rfl
theorem right_m5 : rightV ⟨2, false, -5, ⟨#[]⟩⟩ = true := by simp [rightV, eqVB]
theorem right_a : rightV ⟨3, false, 0, ⟨#[97]⟩⟩ = true := by simp [rightV, eqVB]; decide

set_option maxHeartbeats 1000000 in
theorem print_m5 (w : World) (hT : Tb w) : Calls Tryd.prog 32 #[V.val ⟨2, false, -5, ⟨#[]⟩⟩] w fun e w' => e = .returned (.string ⟨#[45, 53]⟩) ∧ Below w.heap.size w w' := by
  have hB := below_alloc (Below.refl w.heap.size w) (.cells #[.int .i64 2, .bool false, .int .i64 (-5), .string ⟨#[]⟩] 23)
  have hN := blk_new w (.cells #[.int .i64 2, .bool false, .int .i64 (-5), .string ⟨#[]⟩] 23)
  unfold V.val
  go_enter Tryd.func32, Tryd.ntmps32
  go_wp2_with fail
  refine (right_any ⟨2, false, -5, ⟨#[]⟩⟩ _).mono ?_
  rintro e w1 ⟨rfl, hb⟩
  rw [right_m5]
  have hN1 := blk_below hN hb
  have hB1 := hB.trans (hb.mono hB.size)
  have g0 : w1.cell? ⟨w.heap.size, 0, none⟩ = some (.int .i64 2) := (blk_cell hN1 0).trans rfl
  have g2 : w1.cell? ⟨w.heap.size, 2, none⟩ = some (.int .i64 (-5)) := (blk_cell hN1 2).trans rfl
  clear hb hN
  go_wp2_with fail
  refine (Tryd.strconv_FormatInt_10 (-5) (by decide) (by decide) _ (hT.below hB1)).mono ?_
  rintro e w2 ⟨rfl, k, os, rfl⟩
  rw [itoa_m5]
  go_wp2
  go_ret
  exact ⟨rfl, hB1.trans ((below_grow2 w1 k os).mono hB1.size)⟩

attribute [local go_sem high] eqV
set_option maxHeartbeats 1000000 in
theorem alive2_any (w : World) (hT : Tb w) : Calls Tryd.prog 12 #[] w fun e w' => e = .returned (.bool true) ∧ Below w.heap.size w w' := by
  go_enter Tryd.func12, Tryd.ntmps12
  go_wp2_with fail
  refine (mkInt_any 7 _).mono ?_
  rintro e w1 ⟨rfl, hw⟩
  unfold V.val
  go_wp2_with fail
  refine (mkText_any _ _).mono ?_
  rintro e w2 ⟨rfl, hb⟩
  replace hw := hw.trans (hb.mono hw.size)
  clear hb
  go_wp2_with fail
  refine (right_any ⟨3, false, 0, ⟨#[97]⟩⟩ _).mono ?_
  rintro e w3 ⟨rfl, hb⟩
  replace hw := hw.trans (hb.mono hw.size)
  clear hb
  rw [right_a]
  go_wp2_with fail
  refine (null_any _).mono ?_
  rintro e w4 ⟨rfl, hb⟩
  replace hw := hw.trans (hb.mono hw.size)
  clear hb
  go_wp2_with fail
  refine (mkBool_any _ _).mono ?_
  rintro e w5 ⟨rfl, hb⟩
  replace hw := hw.trans (hb.mono hw.size)
  clear hb
  go_wp2_with fail
  refine (compareV ⟨0, false, 0, ⟨#[]⟩⟩ ⟨1, false, 0, ⟨#[]⟩⟩ _).mono ?_
  rintro e w6 ⟨rfl, hb⟩
  replace hw := hw.trans (hb.mono hw.size)
  clear hb
  rw [show cmpV ⟨0, false, 0, ⟨#[]⟩⟩ ⟨1, false, 0, ⟨#[]⟩⟩ = -1 from by decide]
  go_wp2_with fail
  refine (mkInt_any (-5) _).mono ?_
  rintro e w7 ⟨rfl, hb⟩
  replace hw := hw.trans (hb.mono hw.size)
  clear hb
  go_wp2_with fail
  refine (print_m5 _ (hT.below hw)).mono ?_
  rintro e w8 ⟨rfl, hb⟩
  replace hw := hw.trans (hb.mono hw.size)
  go_wp2
  go_ret
  exact ⟨ret_bool (by decide), hw⟩
end Go.Proofs.YtmkikigikedjoaaDoor.Op
