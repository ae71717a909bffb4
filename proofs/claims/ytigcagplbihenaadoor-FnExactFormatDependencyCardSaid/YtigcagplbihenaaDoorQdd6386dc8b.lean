/- Texts joined for one claim: LFormatDependency. -/
import Derived.Test.YtigcagplbihenaaDoorQa498a4d8ba
import Derived.Deep.RegionHeld3

/- The walk of the law FormatDependency. Written by a program. -/
namespace Go.Proofs.YtigcagplbihenaaDoor
open Go.RowKit
set_option linter.unusedVariables false
set_option linter.unusedSimpArgs false
set_option synthInstance.maxSize 2000
set_option synthInstance.maxHeartbeats 400000

set_option maxHeartbeats 4000000 in
set_option maxRecDepth 100000 in
theorem walk_FnExactFormatDependency (v0 : Value) (w : World) (h0 : kDp_in w v0) :
    Calls Tryd.prog 5 #[v0] w fun e w' => e = .returned (.bool true) ∧ Below w.heap.size w w' := by
  obtain ⟨c0, x0, rfl, h0⟩ := h0
  obtain ⟨bu0, nu0, cu0, rfl⟩ := rDp_form h0
  have hb0 : Below w.heap.size w w := Below.refl _ _
  go_enter Tryd.func5, Tryd.ntmps5
  obtain ⟨w1, hw1⟩ : ∃ W, W = w.alloc (.cells #[.string x0.1, .slice bu0 nu0 cu0, .int .i64 x0.2.2] 35) := ⟨_, rfl⟩
  have z1 : Below w.heap.size w w1 := by rw [hw1]; exact (Below.refl _ _).alloc (Nat.le_refl _) _
  have s1 : w1.heap.size = w.heap.size + 1 := by rw [hw1]; simp
  have hb1 := on hb0 z1
  have bp0_0 : w1.cell? ⟨w.heap.size, 0, none⟩ = some (.string x0.1) := by rw [hw1]; exact box_cell (Below.refl _ _) rfl
  have bp0_1 : w1.cell? ⟨w.heap.size, 1, none⟩ = some (.slice bu0 nu0 cu0) := by rw [hw1]; exact box_cell (Below.refl _ _) rfl
  have bp0_2 : w1.cell? ⟨w.heap.size, 2, none⟩ = some (.int .i64 x0.2.2) := by rw [hw1]; exact box_cell (Below.refl _ _) rfl
  go_wp2_with fail
  rw [← hw1]
  clear hw1
  refine (sz_Dp _ x0 (1048576) _ (rDp.mono h0 hb1) (by omega) (by omega)).mono ?_
  rintro e w2 ⟨rfl, z2⟩
  have s2 := z2.size
  have hb2 := on hb1 z2
  replace bp0_0 := (z2.cell (p := ⟨w.heap.size, 0, none⟩) (by simp only []; omega)).trans bp0_0
  replace bp0_1 := (z2.cell (p := ⟨w.heap.size, 1, none⟩) (by simp only []; omega)).trans bp0_1
  replace bp0_2 := (z2.cell (p := ⟨w.heap.size, 2, none⟩) (by simp only []; omega)).trans bp0_2
  obtain ⟨q0, hq0⟩ : ∃ q, q = szR (1048576) (bulk_Dp x0) := ⟨_, rfl⟩
  rw [← hq0]
  have hc0 := szR_cases (1048576) (bulk_Dp x0)
  rw [← hq0] at hc0
  clear hq0
  rcases hc0 with ⟨rfl, _⟩ | ⟨hq0, hbk0⟩
  · go_wp2_with fail
    go_ret
    exact ⟨rfl, hb2⟩
  have hlo0 : 0 ≤ q0 ∧ q0 ≤ 1048576 := by omega
  have hbl0 : bulk_Dp x0 ≤ 1048576 := by omega
  obtain ⟨hlo0, hlp0⟩ := hlo0
  have HQ0 := Lib.hid hq0
  clear hq0 hbk0
  go_wp2_with fail
  refine (to_Dp _ _ _ (rDp.mono h0 hb2) (by omega)).mono ?_
  rintro e w3 ⟨ct0, rfl, t0, z3⟩
  have s3 := z3.size
  have hb3 := on hb2 z3
  replace bp0_0 := (z3.cell (p := ⟨w.heap.size, 0, none⟩) (by simp only []; omega)).trans bp0_0
  replace bp0_1 := (z3.cell (p := ⟨w.heap.size, 1, none⟩) (by simp only []; omega)).trans bp0_1
  replace bp0_2 := (z3.cell (p := ⟨w.heap.size, 2, none⟩) (by simp only []; omega)).trans bp0_2
  obtain ⟨but0, nut0, cut0, rfl⟩ := oDp_form t0
  go_wp2_with fail
  refine (fmtDp_spec _ x0 _ (t0.rd reads_Dp) (by have := hbl0; unfold bulk_Dp bulk_I at this; omega)).mono ?_
  rintro e w4 ⟨rfl, z4⟩
  have s4 := z4.size
  have hb4 := on hb3 z4
  replace t0 := t0.below z4 (by omega)
  replace bp0_0 := (z4.cell (p := ⟨w.heap.size, 0, none⟩) (by simp only []; omega)).trans bp0_0
  replace bp0_1 := (z4.cell (p := ⟨w.heap.size, 1, none⟩) (by simp only []; omega)).trans bp0_1
  replace bp0_2 := (z4.cell (p := ⟨w.heap.size, 2, none⟩) (by simp only []; omega)).trans bp0_2
  clear t0
  go_wp2_with fail
  refine (to_Dp _ _ _ (rDp.mono h0 hb4) (by omega)).mono ?_
  rintro e w5 ⟨cy0, rfl, y0, z5⟩
  have s5 := z5.size
  have hb5 := on hb4 z5
  replace bp0_0 := (z5.cell (p := ⟨w.heap.size, 0, none⟩) (by simp only []; omega)).trans bp0_0
  replace bp0_1 := (z5.cell (p := ⟨w.heap.size, 1, none⟩) (by simp only []; omega)).trans bp0_1
  replace bp0_2 := (z5.cell (p := ⟨w.heap.size, 2, none⟩) (by simp only []; omega)).trans bp0_2
  obtain ⟨buy0, nuy0, cuy0, rfl⟩ := oDp_form y0
  obtain ⟨w6, hw6⟩ : ∃ W, W = w5.alloc (.cells #[.string x0.1, .slice buy0 nuy0 cuy0, .int .i64 x0.2.2] 38) := ⟨_, rfl⟩
  have z6 : Below w5.heap.size w5 w6 := by rw [hw6]; exact (Below.refl _ _).alloc (Nat.le_refl _) _
  have s6 : w6.heap.size = w5.heap.size + 1 := by rw [hw6]; simp
  have hb6 := on hb5 z6
  replace y0 := y0.below z6 (by omega)
  replace bp0_0 := (z6.cell (p := ⟨w.heap.size, 0, none⟩) (by simp only []; omega)).trans bp0_0
  replace bp0_1 := (z6.cell (p := ⟨w.heap.size, 1, none⟩) (by simp only []; omega)).trans bp0_1
  replace bp0_2 := (z6.cell (p := ⟨w.heap.size, 2, none⟩) (by simp only []; omega)).trans bp0_2
  have by0_0 : w6.cell? ⟨w5.heap.size, 0, none⟩ = some (.string x0.1) := by rw [hw6]; exact box_cell (Below.refl _ _) rfl
  have by0_1 : w6.cell? ⟨w5.heap.size, 1, none⟩ = some (.slice buy0 nuy0 cuy0) := by rw [hw6]; exact box_cell (Below.refl _ _) rfl
  have by0_2 : w6.cell? ⟨w5.heap.size, 2, none⟩ = some (.int .i64 x0.2.2) := by rw [hw6]; exact box_cell (Below.refl _ _) rfl
  have raw_bp0_0 := bp0_0
  rw [hw6] at raw_bp0_0
  have raw_bp0_1 := bp0_1
  rw [hw6] at raw_bp0_1
  have raw_bp0_2 := bp0_2
  rw [hw6] at raw_bp0_2
  have raw_by0_0 := by0_0
  rw [hw6] at raw_by0_0
  have raw_by0_1 := by0_1
  rw [hw6] at raw_by0_1
  have raw_by0_2 := by0_2
  rw [hw6] at raw_by0_2
  go_wp2_with fail
  rw [← hw6]
  clear hw6
  clear raw_bp0_0 raw_bp0_1 raw_bp0_2 raw_by0_0 raw_by0_1 raw_by0_2
  refine (fmtDp_impl _ x0 _ (y0.rd reads_Dp) (by have := hbl0; unfold bulk_Dp bulk_I at this; omega)).mono ?_
  rintro e w7 ⟨rfl, z7⟩
  have s7 := z7.size
  have hb7 := on hb6 z7
  replace y0 := y0.below z7 (by omega)
  replace bp0_0 := (z7.cell (p := ⟨w.heap.size, 0, none⟩) (by simp only []; omega)).trans bp0_0
  replace bp0_1 := (z7.cell (p := ⟨w.heap.size, 1, none⟩) (by simp only []; omega)).trans bp0_1
  replace bp0_2 := (z7.cell (p := ⟨w.heap.size, 2, none⟩) (by simp only []; omega)).trans bp0_2
  replace by0_0 := (z7.cell (p := ⟨w5.heap.size, 0, none⟩) (by simp only []; omega)).trans by0_0
  replace by0_1 := (z7.cell (p := ⟨w5.heap.size, 1, none⟩) (by simp only []; omega)).trans by0_1
  replace by0_2 := (z7.cell (p := ⟨w5.heap.size, 2, none⟩) (by simp only []; omega)).trans by0_2
  go_wp2_with fail
  go_region_held3 (fun W => W.cell? ⟨w5.heap.size, 0, none⟩ = some (.string x0.1) ∧ W.cell? ⟨w5.heap.size, 1, none⟩ = some (.slice buy0 nuy0 cuy0) ∧ W.cell? ⟨w5.heap.size, 2, none⟩ = some (.int .i64 x0.2.2) ∧ W.cell? ⟨w.heap.size, 0, none⟩ = some (.string x0.1) ∧ W.cell? ⟨w.heap.size, 1, none⟩ = some (.slice bu0 nu0 cu0) ∧ W.cell? ⟨w.heap.size, 2, none⟩ = some (.int .i64 x0.2.2)) (first | exact ⟨by0_0, by0_1, by0_2, bp0_0, bp0_1, bp0_2⟩ | assumption) (first | (go_at_call 19; refine (to_Dp _ x0 _ (rDp.mono h0 hb7.drew) (by omega)).mono ?_; rintro e w8 ⟨du0, rfl, u0, z8⟩; replace z8 : Below w7.heap.size w7 w8 := (Below.refl _ _).drew.trans z8; have hS0 := (⟨(z8.cell (p := ⟨w5.heap.size, 0, none⟩) (by simp only []; omega)).trans by0_0, (z8.cell (p := ⟨w5.heap.size, 1, none⟩) (by simp only []; omega)).trans by0_1, (z8.cell (p := ⟨w5.heap.size, 2, none⟩) (by simp only []; omega)).trans by0_2, (z8.cell (p := ⟨w.heap.size, 0, none⟩) (by simp only []; omega)).trans bp0_0, (z8.cell (p := ⟨w.heap.size, 1, none⟩) (by simp only []; omega)).trans bp0_1, (z8.cell (p := ⟨w.heap.size, 2, none⟩) (by simp only []; omega)).trans bp0_2⟩ : (fun W => W.cell? ⟨w5.heap.size, 0, none⟩ = some (.string x0.1) ∧ W.cell? ⟨w5.heap.size, 1, none⟩ = some (.slice buy0 nuy0 cuy0) ∧ W.cell? ⟨w5.heap.size, 2, none⟩ = some (.int .i64 x0.2.2) ∧ W.cell? ⟨w.heap.size, 0, none⟩ = some (.string x0.1) ∧ W.cell? ⟨w.heap.size, 1, none⟩ = some (.slice bu0 nu0 cu0) ∧ W.cell? ⟨w.heap.size, 2, none⟩ = some (.int .i64 x0.2.2)) w8); obtain ⟨buu0, nuu0, cuu0, rfl⟩ := oDp_form u0; have y0' := y0.below z8 (by omega)) | (go_at_call 21; refine (eq_Dp _ _ x0 x0 _ (y0'.rd reads_Dp) (u0.rd reads_Dp)).mono ?_; rintro e w9 ⟨rfl, z9⟩; have s8 := z8.size; have hT0 := (⟨(z9.cell (p := ⟨w5.heap.size, 0, none⟩) (by simp only []; omega)).trans hS0.1, (z9.cell (p := ⟨w5.heap.size, 1, none⟩) (by simp only []; omega)).trans hS0.2.1, (z9.cell (p := ⟨w5.heap.size, 2, none⟩) (by simp only []; omega)).trans hS0.2.2.1, (z9.cell (p := ⟨w.heap.size, 0, none⟩) (by simp only []; omega)).trans hS0.2.2.2.1, (z9.cell (p := ⟨w.heap.size, 1, none⟩) (by simp only []; omega)).trans hS0.2.2.2.2.1, (z9.cell (p := ⟨w.heap.size, 2, none⟩) (by simp only []; omega)).trans hS0.2.2.2.2.2⟩ : (fun W => W.cell? ⟨w5.heap.size, 0, none⟩ = some (.string x0.1) ∧ W.cell? ⟨w5.heap.size, 1, none⟩ = some (.slice buy0 nuy0 cuy0) ∧ W.cell? ⟨w5.heap.size, 2, none⟩ = some (.int .i64 x0.2.2) ∧ W.cell? ⟨w.heap.size, 0, none⟩ = some (.string x0.1) ∧ W.cell? ⟨w.heap.size, 1, none⟩ = some (.slice bu0 nu0 cu0) ∧ W.cell? ⟨w.heap.size, 2, none⟩ = some (.int .i64 x0.2.2)) w9)))
  replace z8 : Below w7.heap.size w7 w8 := z8
  clear u0 y0' hS0 hT0
  have t8 := z8.size
  have hb8 := on hb7 z8
  replace y0 := y0.below z8 (by omega)
  replace bp0_0 := (z8.cell (p := ⟨w.heap.size, 0, none⟩) (by simp only []; omega)).trans bp0_0
  replace bp0_1 := (z8.cell (p := ⟨w.heap.size, 1, none⟩) (by simp only []; omega)).trans bp0_1
  replace bp0_2 := (z8.cell (p := ⟨w.heap.size, 2, none⟩) (by simp only []; omega)).trans bp0_2
  replace by0_0 := (z8.cell (p := ⟨w5.heap.size, 0, none⟩) (by simp only []; omega)).trans by0_0
  replace by0_1 := (z8.cell (p := ⟨w5.heap.size, 1, none⟩) (by simp only []; omega)).trans by0_1
  replace by0_2 := (z8.cell (p := ⟨w5.heap.size, 2, none⟩) (by simp only []; omega)).trans by0_2
  have t9 := z9.size
  have hb9 := on hb8 z9
  replace y0 := y0.below z9 (by omega)
  replace bp0_0 := (z9.cell (p := ⟨w.heap.size, 0, none⟩) (by simp only []; omega)).trans bp0_0
  replace bp0_1 := (z9.cell (p := ⟨w.heap.size, 1, none⟩) (by simp only []; omega)).trans bp0_1
  replace bp0_2 := (z9.cell (p := ⟨w.heap.size, 2, none⟩) (by simp only []; omega)).trans bp0_2
  replace by0_0 := (z9.cell (p := ⟨w5.heap.size, 0, none⟩) (by simp only []; omega)).trans by0_0
  replace by0_1 := (z9.cell (p := ⟨w5.heap.size, 1, none⟩) (by simp only []; omega)).trans by0_1
  replace by0_2 := (z9.cell (p := ⟨w5.heap.size, 2, none⟩) (by simp only []; omega)).trans by0_2
  go_wp2_with fail
  go_ret
  exact ⟨rfl, hb9⟩

end Go.Proofs.YtigcagplbihenaaDoor
