/- The walk of the law FormatInclusion. Written by a program. -/
import Derived.Test.YtigcagplbihenaaDoorIncF
import Derived.Test.YtigcagplbihenaaDoorOIn
import Derived.Deep.RegionHeld3
namespace Go.Proofs.YtigcagplbihenaaDoor
open Go.RowKit
set_option linter.unusedVariables false
set_option linter.unusedSimpArgs false
set_option synthInstance.maxSize 2000
set_option synthInstance.maxHeartbeats 400000

set_option maxHeartbeats 4000000 in
set_option maxRecDepth 100000 in
theorem walk_FnExactFormatInclusion (v0 : Value) (w : World) (h0 : kIn_in w v0) :
    Calls Tryd.prog 3 #[v0] w fun e w' => e = .returned (.bool true) ∧ Below w.heap.size w w' := by
  obtain ⟨c0, x0, rfl, h0⟩ := h0
  obtain ⟨rfl⟩ := rIn_form h0
  have hb0 : Below w.heap.size w w := Below.refl _ _
  go_enter Tryd.func3, Tryd.ntmps3
  obtain ⟨w1, hw1⟩ : ∃ W, W = w.alloc (.cells #[.string x0.1, .int .i64 x0.2.1, .string x0.2.2.1, .int .i64 x0.2.2.2] 23) := ⟨_, rfl⟩
  have z1 : Below w.heap.size w w1 := by rw [hw1]; exact (Below.refl _ _).alloc (Nat.le_refl _) _
  have s1 : w1.heap.size = w.heap.size + 1 := by rw [hw1]; simp
  have hb1 := on hb0 z1
  have bp0_0 : w1.cell? ⟨w.heap.size, 0, none⟩ = some (.string x0.1) := by rw [hw1]; exact box_cell (Below.refl _ _) rfl
  have bp0_1 : w1.cell? ⟨w.heap.size, 1, none⟩ = some (.int .i64 x0.2.1) := by rw [hw1]; exact box_cell (Below.refl _ _) rfl
  have bp0_2 : w1.cell? ⟨w.heap.size, 2, none⟩ = some (.string x0.2.2.1) := by rw [hw1]; exact box_cell (Below.refl _ _) rfl
  have bp0_3 : w1.cell? ⟨w.heap.size, 3, none⟩ = some (.int .i64 x0.2.2.2) := by rw [hw1]; exact box_cell (Below.refl _ _) rfl
  go_wp2_with fail
  rw [← hw1]
  clear hw1
  refine (sz_In _ x0 (1048576) _ (rIn.mono h0 hb1) (by omega) (by omega)).mono ?_
  rintro e w2 ⟨rfl, z2⟩
  have s2 := z2.size
  have hb2 := on hb1 z2
  replace bp0_0 := (z2.cell (p := ⟨w.heap.size, 0, none⟩) (by simp only []; omega)).trans bp0_0
  replace bp0_1 := (z2.cell (p := ⟨w.heap.size, 1, none⟩) (by simp only []; omega)).trans bp0_1
  replace bp0_2 := (z2.cell (p := ⟨w.heap.size, 2, none⟩) (by simp only []; omega)).trans bp0_2
  replace bp0_3 := (z2.cell (p := ⟨w.heap.size, 3, none⟩) (by simp only []; omega)).trans bp0_3
  obtain ⟨q0, hq0⟩ : ∃ q, q = szR (1048576) (bulk_In x0) := ⟨_, rfl⟩
  rw [← hq0]
  have hc0 := szR_cases (1048576) (bulk_In x0)
  rw [← hq0] at hc0
  clear hq0
  rcases hc0 with ⟨rfl, _⟩ | ⟨hq0, hbk0⟩
  · go_wp2_with fail
    go_ret
    exact ⟨rfl, hb2⟩
  have hlo0 : 0 ≤ q0 ∧ q0 ≤ 1048576 := by omega
  have hbl0 : bulk_In x0 ≤ 1048576 := by omega
  obtain ⟨hlo0, hlp0⟩ := hlo0
  have HQ0 := Lib.hid hq0
  clear hq0 hbk0
  go_wp2_with fail
  refine (to_In _ _ _ (rIn.mono h0 hb2)).mono ?_
  rintro e w3 ⟨rfl, z3⟩
  have s3 := z3.size
  have hb3 := on hb2 z3
  replace bp0_0 := (z3.cell (p := ⟨w.heap.size, 0, none⟩) (by simp only []; omega)).trans bp0_0
  replace bp0_1 := (z3.cell (p := ⟨w.heap.size, 1, none⟩) (by simp only []; omega)).trans bp0_1
  replace bp0_2 := (z3.cell (p := ⟨w.heap.size, 2, none⟩) (by simp only []; omega)).trans bp0_2
  replace bp0_3 := (z3.cell (p := ⟨w.heap.size, 3, none⟩) (by simp only []; omega)).trans bp0_3
  go_wp2_with fail
  refine (fmtIn_spec _ x0 _ (rIn.mono h0 hb3)).mono ?_
  rintro e w4 ⟨rfl, z4⟩
  have s4 := z4.size
  have hb4 := on hb3 z4
  replace bp0_0 := (z4.cell (p := ⟨w.heap.size, 0, none⟩) (by simp only []; omega)).trans bp0_0
  replace bp0_1 := (z4.cell (p := ⟨w.heap.size, 1, none⟩) (by simp only []; omega)).trans bp0_1
  replace bp0_2 := (z4.cell (p := ⟨w.heap.size, 2, none⟩) (by simp only []; omega)).trans bp0_2
  replace bp0_3 := (z4.cell (p := ⟨w.heap.size, 3, none⟩) (by simp only []; omega)).trans bp0_3
  go_wp2_with fail
  refine (to_In _ _ _ (rIn.mono h0 hb4)).mono ?_
  rintro e w5 ⟨rfl, z5⟩
  have s5 := z5.size
  have hb5 := on hb4 z5
  replace bp0_0 := (z5.cell (p := ⟨w.heap.size, 0, none⟩) (by simp only []; omega)).trans bp0_0
  replace bp0_1 := (z5.cell (p := ⟨w.heap.size, 1, none⟩) (by simp only []; omega)).trans bp0_1
  replace bp0_2 := (z5.cell (p := ⟨w.heap.size, 2, none⟩) (by simp only []; omega)).trans bp0_2
  replace bp0_3 := (z5.cell (p := ⟨w.heap.size, 3, none⟩) (by simp only []; omega)).trans bp0_3
  go_wp2_with fail
  refine (fmtIn_impl _ x0 _ (rIn.mono h0 hb5)).mono ?_
  rintro e w6 ⟨rfl, z6⟩
  have s6 := z6.size
  have hb6 := on hb5 z6
  replace bp0_0 := (z6.cell (p := ⟨w.heap.size, 0, none⟩) (by simp only []; omega)).trans bp0_0
  replace bp0_1 := (z6.cell (p := ⟨w.heap.size, 1, none⟩) (by simp only []; omega)).trans bp0_1
  replace bp0_2 := (z6.cell (p := ⟨w.heap.size, 2, none⟩) (by simp only []; omega)).trans bp0_2
  replace bp0_3 := (z6.cell (p := ⟨w.heap.size, 3, none⟩) (by simp only []; omega)).trans bp0_3
  go_wp2_with fail
  go_ret
  exact ⟨rfl, hb6⟩

end Go.Proofs.YtigcagplbihenaaDoor
