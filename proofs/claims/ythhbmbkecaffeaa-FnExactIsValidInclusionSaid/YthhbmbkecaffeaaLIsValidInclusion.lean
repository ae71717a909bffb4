/- The walk of the law IsValidInclusion. Written by a program. -/
import Derived.Test.YthhbmbkecaffeaaInc
import Derived.Test.YthhbmbkecaffeaaODb
import Derived.Test.YthhbmbkecaffeaaOIn
import Derived.Deep.RegionHeld3
namespace Go.Proofs.Ythhbmbkecaffeaa
open Go.RowKit
set_option linter.unusedVariables false
set_option linter.unusedSimpArgs false
set_option synthInstance.maxSize 2000
set_option synthInstance.maxHeartbeats 400000

set_option maxHeartbeats 4000000 in
set_option maxRecDepth 100000 in
theorem walk_FnExactIsValidInclusion (v0 : Value) (v1 : Value) (w : World) (h0 : kDb_in w v0) (h1 : kIn_in w v1) :
    Calls Try.prog 6 #[v0, v1] w fun e w' => e = .returned (.bool true) ∧ Below w.heap.size w w' := by
  obtain ⟨c0, x0, rfl, h0⟩ := h0
  obtain ⟨bu0, nu0, cu0, rfl⟩ := rDb_form h0
  obtain ⟨c1, x1, rfl, h1⟩ := h1
  obtain ⟨rfl⟩ := rIn_form h1
  have hb0 : Below w.heap.size w w := Below.refl _ _
  go_enter Try.func6, Try.ntmps6
  obtain ⟨w1, hw1⟩ : ∃ W, W = w.alloc (.cells #[.slice bu0 nu0 cu0] 41) := ⟨_, rfl⟩
  have z1 : Below w.heap.size w w1 := by rw [hw1]; exact (Below.refl _ _).alloc (Nat.le_refl _) _
  have s1 : w1.heap.size = w.heap.size + 1 := by rw [hw1]; simp
  have hb1 := on hb0 z1
  have bp0_0 : w1.cell? ⟨w.heap.size, 0, none⟩ = some (.slice bu0 nu0 cu0) := by rw [hw1]; exact box_cell (Below.refl _ _) rfl
  obtain ⟨w2, hw2⟩ : ∃ W, W = w1.alloc (.cells #[.string x1.1, .int .i64 x1.2.1, .string x1.2.2.1, .int .i64 x1.2.2.2] 43) := ⟨_, rfl⟩
  have z2 : Below w1.heap.size w1 w2 := by rw [hw2]; exact (Below.refl _ _).alloc (Nat.le_refl _) _
  have s2 : w2.heap.size = w1.heap.size + 1 := by rw [hw2]; simp
  have hb2 := on hb1 z2
  replace bp0_0 := (z2.cell (p := ⟨w.heap.size, 0, none⟩) (by simp only []; omega)).trans bp0_0
  have bp1_0 : w2.cell? ⟨w1.heap.size, 0, none⟩ = some (.string x1.1) := by rw [hw2]; exact box_cell (Below.refl _ _) rfl
  have bp1_1 : w2.cell? ⟨w1.heap.size, 1, none⟩ = some (.int .i64 x1.2.1) := by rw [hw2]; exact box_cell (Below.refl _ _) rfl
  have bp1_2 : w2.cell? ⟨w1.heap.size, 2, none⟩ = some (.string x1.2.2.1) := by rw [hw2]; exact box_cell (Below.refl _ _) rfl
  have bp1_3 : w2.cell? ⟨w1.heap.size, 3, none⟩ = some (.int .i64 x1.2.2.2) := by rw [hw2]; exact box_cell (Below.refl _ _) rfl
  have e2 : w1.heap.size = w.heap.size + 1 := by omega
  rw [e2] at bp1_0 bp1_1 bp1_2 bp1_3
  go_wp2_with fail
  rw [← hw1]
  clear hw1
  rw [← hw2]
  clear hw2
  refine (sz_Db _ x0 (1048576) _ (rDb.mono h0 hb2) (by omega) (by omega)).mono ?_
  rintro e w3 ⟨rfl, z3⟩
  have s3 := z3.size
  have hb3 := on hb2 z3
  replace bp0_0 := (z3.cell (p := ⟨w.heap.size, 0, none⟩) (by simp only []; omega)).trans bp0_0
  replace bp1_0 := (z3.cell (p := ⟨w.heap.size + 1, 0, none⟩) (by simp only []; omega)).trans bp1_0
  replace bp1_1 := (z3.cell (p := ⟨w.heap.size + 1, 1, none⟩) (by simp only []; omega)).trans bp1_1
  replace bp1_2 := (z3.cell (p := ⟨w.heap.size + 1, 2, none⟩) (by simp only []; omega)).trans bp1_2
  replace bp1_3 := (z3.cell (p := ⟨w.heap.size + 1, 3, none⟩) (by simp only []; omega)).trans bp1_3
  obtain ⟨q0, hq0⟩ : ∃ q, q = szR (1048576) (bulk_Db x0) := ⟨_, rfl⟩
  rw [← hq0]
  have hc0 := szR_cases (1048576) (bulk_Db x0)
  rw [← hq0] at hc0
  clear hq0
  rcases hc0 with ⟨rfl, _⟩ | ⟨hq0, hbk0⟩
  · go_wp2_with fail
    go_ret
    exact ⟨rfl, hb3⟩
  have hlo0 : 0 ≤ q0 ∧ q0 ≤ 1048576 := by omega
  have hbl0 : bulk_Db x0 ≤ 1048576 := by omega
  obtain ⟨hlo0, hlp0⟩ := hlo0
  have HQ0 := Lib.hid hq0
  clear hq0 hbk0
  go_wp2_with fail
  refine (sz_In _ x1 (q0) _ (rIn.mono h1 hb3) (by omega) (by omega)).mono ?_
  rintro e w4 ⟨rfl, z4⟩
  have s4 := z4.size
  have hb4 := on hb3 z4
  replace bp0_0 := (z4.cell (p := ⟨w.heap.size, 0, none⟩) (by simp only []; omega)).trans bp0_0
  replace bp1_0 := (z4.cell (p := ⟨w.heap.size + 1, 0, none⟩) (by simp only []; omega)).trans bp1_0
  replace bp1_1 := (z4.cell (p := ⟨w.heap.size + 1, 1, none⟩) (by simp only []; omega)).trans bp1_1
  replace bp1_2 := (z4.cell (p := ⟨w.heap.size + 1, 2, none⟩) (by simp only []; omega)).trans bp1_2
  replace bp1_3 := (z4.cell (p := ⟨w.heap.size + 1, 3, none⟩) (by simp only []; omega)).trans bp1_3
  obtain ⟨q1, hq1⟩ : ∃ q, q = szR (q0) (bulk_In x1) := ⟨_, rfl⟩
  rw [← hq1]
  have hc1 := szR_cases (q0) (bulk_In x1)
  rw [← hq1] at hc1
  clear hq1
  rcases hc1 with ⟨rfl, _⟩ | ⟨hq1, hbk1⟩
  · go_wp2_with fail
    go_ret
    exact ⟨rfl, hb4⟩
  have hlo1 : 0 ≤ q1 ∧ q1 ≤ 1048576 := by omega
  have hbl1 : bulk_In x1 ≤ 1048576 := by omega
  obtain ⟨hlo1, hlp1⟩ := hlo1
  have HQ1 := Lib.hid hq1
  clear hq1 hbk1
  go_wp2_with fail
  go_region_held3 (fun W => W.cell? ⟨w.heap.size, 0, none⟩ = some (.slice bu0 nu0 cu0) ∧ W.cell? ⟨w.heap.size + 1, 0, none⟩ = some (.string x1.1) ∧ W.cell? ⟨w.heap.size + 1, 1, none⟩ = some (.int .i64 x1.2.1) ∧ W.cell? ⟨w.heap.size + 1, 2, none⟩ = some (.string x1.2.2.1) ∧ W.cell? ⟨w.heap.size + 1, 3, none⟩ = some (.int .i64 x1.2.2.2)) (first | exact ⟨bp0_0, bp1_0, bp1_1, bp1_2, bp1_3⟩ | assumption) (first | (go_at_call 28; with_reducible (show Calls Try.prog 28 #[.agg #[.slice bu0 nu0 cu0]] _ _); refine (to_Db _ x0 _ (rDb.mono h0 hb4.drew) (by omega)).mono ?_; rintro e w5 ⟨ct0, rfl, t0, z5⟩; replace z5 : Below w4.heap.size w4 w5 := on (Below.refl _ _).drew z5; have sz5 := z5.size; obtain ⟨but0, nut0, cut0, rfl⟩ := oDb_form t0; have hS5 := (⟨(z5.cell (p := ⟨w.heap.size, 0, none⟩) (by simp only []; omega)).trans bp0_0, (z5.cell (p := ⟨w.heap.size + 1, 0, none⟩) (by simp only []; omega)).trans bp1_0, (z5.cell (p := ⟨w.heap.size + 1, 1, none⟩) (by simp only []; omega)).trans bp1_1, (z5.cell (p := ⟨w.heap.size + 1, 2, none⟩) (by simp only []; omega)).trans bp1_2, (z5.cell (p := ⟨w.heap.size + 1, 3, none⟩) (by simp only []; omega)).trans bp1_3⟩ : (fun W => W.cell? ⟨w.heap.size, 0, none⟩ = some (.slice bu0 nu0 cu0) ∧ W.cell? ⟨w.heap.size + 1, 0, none⟩ = some (.string x1.1) ∧ W.cell? ⟨w.heap.size + 1, 1, none⟩ = some (.int .i64 x1.2.1) ∧ W.cell? ⟨w.heap.size + 1, 2, none⟩ = some (.string x1.2.2.1) ∧ W.cell? ⟨w.heap.size + 1, 3, none⟩ = some (.int .i64 x1.2.2.2)) w5); have hx5 := on hb4 z5) | (go_at_call 29; with_reducible (show Calls Try.prog 29 #[.agg #[.string x1.1, .int .i64 x1.2.1, .string x1.2.2.1, .int .i64 x1.2.2.2]] _ _); refine (to_In _ x1 _ (rIn.mono h1 hx5)).mono ?_; rintro e w6 ⟨rfl, z6⟩; have sz6 := z6.size; replace t0 := t0.below z6 (by omega); have hS6 := (⟨(z6.cell (p := ⟨w.heap.size, 0, none⟩) (by simp only []; omega)).trans hS5.1, (z6.cell (p := ⟨w.heap.size + 1, 0, none⟩) (by simp only []; omega)).trans hS5.2.1, (z6.cell (p := ⟨w.heap.size + 1, 1, none⟩) (by simp only []; omega)).trans hS5.2.2.1, (z6.cell (p := ⟨w.heap.size + 1, 2, none⟩) (by simp only []; omega)).trans hS5.2.2.2.1, (z6.cell (p := ⟨w.heap.size + 1, 3, none⟩) (by simp only []; omega)).trans hS5.2.2.2.2⟩ : (fun W => W.cell? ⟨w.heap.size, 0, none⟩ = some (.slice bu0 nu0 cu0) ∧ W.cell? ⟨w.heap.size + 1, 0, none⟩ = some (.string x1.1) ∧ W.cell? ⟨w.heap.size + 1, 1, none⟩ = some (.int .i64 x1.2.1) ∧ W.cell? ⟨w.heap.size + 1, 2, none⟩ = some (.string x1.2.2.1) ∧ W.cell? ⟨w.heap.size + 1, 3, none⟩ = some (.int .i64 x1.2.2.2)) w6); have hx6 := on hx5 z6) | (go_at_call 27; refine (validIn_spec _ _ x0 x1 _ (t0.rd reads_Db) (rIn.mono h1 hx6)).mono ?_; rintro e w7 ⟨rfl, z7⟩; have sz7 := z7.size; replace t0 := t0.below z7 (by omega); have hS7 := (⟨(z7.cell (p := ⟨w.heap.size, 0, none⟩) (by simp only []; omega)).trans hS6.1, (z7.cell (p := ⟨w.heap.size + 1, 0, none⟩) (by simp only []; omega)).trans hS6.2.1, (z7.cell (p := ⟨w.heap.size + 1, 1, none⟩) (by simp only []; omega)).trans hS6.2.2.1, (z7.cell (p := ⟨w.heap.size + 1, 2, none⟩) (by simp only []; omega)).trans hS6.2.2.2.1, (z7.cell (p := ⟨w.heap.size + 1, 3, none⟩) (by simp only []; omega)).trans hS6.2.2.2.2⟩ : (fun W => W.cell? ⟨w.heap.size, 0, none⟩ = some (.slice bu0 nu0 cu0) ∧ W.cell? ⟨w.heap.size + 1, 0, none⟩ = some (.string x1.1) ∧ W.cell? ⟨w.heap.size + 1, 1, none⟩ = some (.int .i64 x1.2.1) ∧ W.cell? ⟨w.heap.size + 1, 2, none⟩ = some (.string x1.2.2.1) ∧ W.cell? ⟨w.heap.size + 1, 3, none⟩ = some (.int .i64 x1.2.2.2)) w7); have hx7 := on hx6 z7))
  replace z5 : Below w4.heap.size w4 w5 := z5
  replace z6 : Below w5.heap.size w5 w6 := z6
  replace z7 : Below w6.heap.size w6 w7 := z7
  clear hS5 hx5 hS6 hx6 hS7 hx7 t0
  have t5 := z5.size
  have hb5 := on hb4 z5
  replace bp0_0 := (z5.cell (p := ⟨w.heap.size, 0, none⟩) (by simp only []; omega)).trans bp0_0
  replace bp1_0 := (z5.cell (p := ⟨w.heap.size + 1, 0, none⟩) (by simp only []; omega)).trans bp1_0
  replace bp1_1 := (z5.cell (p := ⟨w.heap.size + 1, 1, none⟩) (by simp only []; omega)).trans bp1_1
  replace bp1_2 := (z5.cell (p := ⟨w.heap.size + 1, 2, none⟩) (by simp only []; omega)).trans bp1_2
  replace bp1_3 := (z5.cell (p := ⟨w.heap.size + 1, 3, none⟩) (by simp only []; omega)).trans bp1_3
  have t6 := z6.size
  have hb6 := on hb5 z6
  replace bp0_0 := (z6.cell (p := ⟨w.heap.size, 0, none⟩) (by simp only []; omega)).trans bp0_0
  replace bp1_0 := (z6.cell (p := ⟨w.heap.size + 1, 0, none⟩) (by simp only []; omega)).trans bp1_0
  replace bp1_1 := (z6.cell (p := ⟨w.heap.size + 1, 1, none⟩) (by simp only []; omega)).trans bp1_1
  replace bp1_2 := (z6.cell (p := ⟨w.heap.size + 1, 2, none⟩) (by simp only []; omega)).trans bp1_2
  replace bp1_3 := (z6.cell (p := ⟨w.heap.size + 1, 3, none⟩) (by simp only []; omega)).trans bp1_3
  have t7 := z7.size
  have hb7 := on hb6 z7
  replace bp0_0 := (z7.cell (p := ⟨w.heap.size, 0, none⟩) (by simp only []; omega)).trans bp0_0
  replace bp1_0 := (z7.cell (p := ⟨w.heap.size + 1, 0, none⟩) (by simp only []; omega)).trans bp1_0
  replace bp1_1 := (z7.cell (p := ⟨w.heap.size + 1, 1, none⟩) (by simp only []; omega)).trans bp1_1
  replace bp1_2 := (z7.cell (p := ⟨w.heap.size + 1, 2, none⟩) (by simp only []; omega)).trans bp1_2
  replace bp1_3 := (z7.cell (p := ⟨w.heap.size + 1, 3, none⟩) (by simp only []; omega)).trans bp1_3
  go_wp2_with fail
  refine (to_Db _ _ _ (rDb.mono h0 hb7) (by omega)).mono ?_
  rintro e w8 ⟨cy0, rfl, y0, z8⟩
  have s8 := z8.size
  have hb8 := on hb7 z8
  replace bp0_0 := (z8.cell (p := ⟨w.heap.size, 0, none⟩) (by simp only []; omega)).trans bp0_0
  replace bp1_0 := (z8.cell (p := ⟨w.heap.size + 1, 0, none⟩) (by simp only []; omega)).trans bp1_0
  replace bp1_1 := (z8.cell (p := ⟨w.heap.size + 1, 1, none⟩) (by simp only []; omega)).trans bp1_1
  replace bp1_2 := (z8.cell (p := ⟨w.heap.size + 1, 2, none⟩) (by simp only []; omega)).trans bp1_2
  replace bp1_3 := (z8.cell (p := ⟨w.heap.size + 1, 3, none⟩) (by simp only []; omega)).trans bp1_3
  obtain ⟨buy0, nuy0, cuy0, rfl⟩ := oDb_form y0
  obtain ⟨w9, hw9⟩ : ∃ W, W = w8.alloc (.cells #[.slice buy0 nuy0 cuy0] 49) := ⟨_, rfl⟩
  have z9 : Below w8.heap.size w8 w9 := by rw [hw9]; exact (Below.refl _ _).alloc (Nat.le_refl _) _
  have s9 : w9.heap.size = w8.heap.size + 1 := by rw [hw9]; simp
  have hb9 := on hb8 z9
  replace y0 := y0.below z9 (by omega)
  replace bp0_0 := (z9.cell (p := ⟨w.heap.size, 0, none⟩) (by simp only []; omega)).trans bp0_0
  replace bp1_0 := (z9.cell (p := ⟨w.heap.size + 1, 0, none⟩) (by simp only []; omega)).trans bp1_0
  replace bp1_1 := (z9.cell (p := ⟨w.heap.size + 1, 1, none⟩) (by simp only []; omega)).trans bp1_1
  replace bp1_2 := (z9.cell (p := ⟨w.heap.size + 1, 2, none⟩) (by simp only []; omega)).trans bp1_2
  replace bp1_3 := (z9.cell (p := ⟨w.heap.size + 1, 3, none⟩) (by simp only []; omega)).trans bp1_3
  have by0_0 : w9.cell? ⟨w8.heap.size, 0, none⟩ = some (.slice buy0 nuy0 cuy0) := by rw [hw9]; exact box_cell (Below.refl _ _) rfl
  have raw_bp0_0 := bp0_0
  rw [hw9] at raw_bp0_0
  have raw_bp1_0 := bp1_0
  rw [hw9] at raw_bp1_0
  have raw_bp1_1 := bp1_1
  rw [hw9] at raw_bp1_1
  have raw_bp1_2 := bp1_2
  rw [hw9] at raw_bp1_2
  have raw_bp1_3 := bp1_3
  rw [hw9] at raw_bp1_3
  have raw_by0_0 := by0_0
  rw [hw9] at raw_by0_0
  go_wp2_with fail
  rw [← hw9]
  clear hw9
  clear raw_bp0_0 raw_bp1_0 raw_bp1_1 raw_bp1_2 raw_bp1_3 raw_by0_0
  go_region_held3 (fun W => W.cell? ⟨w.heap.size, 0, none⟩ = some (.slice bu0 nu0 cu0) ∧ W.cell? ⟨w.heap.size + 1, 0, none⟩ = some (.string x1.1) ∧ W.cell? ⟨w.heap.size + 1, 1, none⟩ = some (.int .i64 x1.2.1) ∧ W.cell? ⟨w.heap.size + 1, 2, none⟩ = some (.string x1.2.2.1) ∧ W.cell? ⟨w.heap.size + 1, 3, none⟩ = some (.int .i64 x1.2.2.2) ∧ W.cell? ⟨w8.heap.size, 0, none⟩ = some (.slice buy0 nuy0 cuy0)) (first | exact ⟨bp0_0, bp1_0, bp1_1, bp1_2, bp1_3, by0_0⟩ | assumption) (first | (go_at_call 29; with_reducible (show Calls Try.prog 29 #[.agg #[.string x1.1, .int .i64 x1.2.1, .string x1.2.2.1, .int .i64 x1.2.2.2]] _ _); refine (to_In _ x1 _ (rIn.mono h1 hb9.drew)).mono ?_; rintro e w10 ⟨rfl, z10⟩; replace z10 : Below w9.heap.size w9 w10 := on (Below.refl _ _).drew z10; have sz10 := z10.size; have y0q := y0.below z10 (by omega); have hS10 := (⟨(z10.cell (p := ⟨w.heap.size, 0, none⟩) (by simp only []; omega)).trans bp0_0, (z10.cell (p := ⟨w.heap.size + 1, 0, none⟩) (by simp only []; omega)).trans bp1_0, (z10.cell (p := ⟨w.heap.size + 1, 1, none⟩) (by simp only []; omega)).trans bp1_1, (z10.cell (p := ⟨w.heap.size + 1, 2, none⟩) (by simp only []; omega)).trans bp1_2, (z10.cell (p := ⟨w.heap.size + 1, 3, none⟩) (by simp only []; omega)).trans bp1_3, (z10.cell (p := ⟨w8.heap.size, 0, none⟩) (by simp only []; omega)).trans by0_0⟩ : (fun W => W.cell? ⟨w.heap.size, 0, none⟩ = some (.slice bu0 nu0 cu0) ∧ W.cell? ⟨w.heap.size + 1, 0, none⟩ = some (.string x1.1) ∧ W.cell? ⟨w.heap.size + 1, 1, none⟩ = some (.int .i64 x1.2.1) ∧ W.cell? ⟨w.heap.size + 1, 2, none⟩ = some (.string x1.2.2.1) ∧ W.cell? ⟨w.heap.size + 1, 3, none⟩ = some (.int .i64 x1.2.2.2) ∧ W.cell? ⟨w8.heap.size, 0, none⟩ = some (.slice buy0 nuy0 cuy0)) w10); have hx10 := on hb9 z10) | (go_at_call 30; refine (validIn_impl _ _ x0 x1 _ (y0q.rd reads_Db) (rIn.mono h1 hx10)).mono ?_; rintro e w11 ⟨rfl, z11⟩; have sz11 := z11.size; replace y0q := y0q.below z11 (by omega); have hS11 := (⟨(z11.cell (p := ⟨w.heap.size, 0, none⟩) (by simp only []; omega)).trans hS10.1, (z11.cell (p := ⟨w.heap.size + 1, 0, none⟩) (by simp only []; omega)).trans hS10.2.1, (z11.cell (p := ⟨w.heap.size + 1, 1, none⟩) (by simp only []; omega)).trans hS10.2.2.1, (z11.cell (p := ⟨w.heap.size + 1, 2, none⟩) (by simp only []; omega)).trans hS10.2.2.2.1, (z11.cell (p := ⟨w.heap.size + 1, 3, none⟩) (by simp only []; omega)).trans hS10.2.2.2.2.1, (z11.cell (p := ⟨w8.heap.size, 0, none⟩) (by simp only []; omega)).trans hS10.2.2.2.2.2⟩ : (fun W => W.cell? ⟨w.heap.size, 0, none⟩ = some (.slice bu0 nu0 cu0) ∧ W.cell? ⟨w.heap.size + 1, 0, none⟩ = some (.string x1.1) ∧ W.cell? ⟨w.heap.size + 1, 1, none⟩ = some (.int .i64 x1.2.1) ∧ W.cell? ⟨w.heap.size + 1, 2, none⟩ = some (.string x1.2.2.1) ∧ W.cell? ⟨w.heap.size + 1, 3, none⟩ = some (.int .i64 x1.2.2.2) ∧ W.cell? ⟨w8.heap.size, 0, none⟩ = some (.slice buy0 nuy0 cuy0)) w11); have hx11 := on hx10 z11))
  replace z10 : Below w9.heap.size w9 w10 := z10
  replace z11 : Below w10.heap.size w10 w11 := z11
  clear hS10 hx10 hS11 hx11  y0q
  have t10 := z10.size
  have hb10 := on hb9 z10
  replace y0 := y0.below z10 (by omega)
  replace bp0_0 := (z10.cell (p := ⟨w.heap.size, 0, none⟩) (by simp only []; omega)).trans bp0_0
  replace bp1_0 := (z10.cell (p := ⟨w.heap.size + 1, 0, none⟩) (by simp only []; omega)).trans bp1_0
  replace bp1_1 := (z10.cell (p := ⟨w.heap.size + 1, 1, none⟩) (by simp only []; omega)).trans bp1_1
  replace bp1_2 := (z10.cell (p := ⟨w.heap.size + 1, 2, none⟩) (by simp only []; omega)).trans bp1_2
  replace bp1_3 := (z10.cell (p := ⟨w.heap.size + 1, 3, none⟩) (by simp only []; omega)).trans bp1_3
  replace by0_0 := (z10.cell (p := ⟨w8.heap.size, 0, none⟩) (by simp only []; omega)).trans by0_0
  have t11 := z11.size
  have hb11 := on hb10 z11
  replace y0 := y0.below z11 (by omega)
  replace bp0_0 := (z11.cell (p := ⟨w.heap.size, 0, none⟩) (by simp only []; omega)).trans bp0_0
  replace bp1_0 := (z11.cell (p := ⟨w.heap.size + 1, 0, none⟩) (by simp only []; omega)).trans bp1_0
  replace bp1_1 := (z11.cell (p := ⟨w.heap.size + 1, 1, none⟩) (by simp only []; omega)).trans bp1_1
  replace bp1_2 := (z11.cell (p := ⟨w.heap.size + 1, 2, none⟩) (by simp only []; omega)).trans bp1_2
  replace bp1_3 := (z11.cell (p := ⟨w.heap.size + 1, 3, none⟩) (by simp only []; omega)).trans bp1_3
  replace by0_0 := (z11.cell (p := ⟨w8.heap.size, 0, none⟩) (by simp only []; omega)).trans by0_0
  go_wp2_with fail
  go_region_held3 (fun W => W.cell? ⟨w8.heap.size, 0, none⟩ = some (.slice buy0 nuy0 cuy0) ∧ W.cell? ⟨w.heap.size, 0, none⟩ = some (.slice bu0 nu0 cu0)) (first | exact ⟨by0_0, bp0_0⟩ | assumption) (first | (go_at_call 28; refine (to_Db _ x0 _ (rDb.mono h0 hb11.drew) (by omega)).mono ?_; rintro e w12 ⟨du0, rfl, u0, z12⟩; replace z12 : Below w11.heap.size w11 w12 := (Below.refl _ _).drew.trans z12; have hS0 := (⟨(z12.cell (p := ⟨w8.heap.size, 0, none⟩) (by simp only []; omega)).trans by0_0, (z12.cell (p := ⟨w.heap.size, 0, none⟩) (by simp only []; omega)).trans bp0_0⟩ : (fun W => W.cell? ⟨w8.heap.size, 0, none⟩ = some (.slice buy0 nuy0 cuy0) ∧ W.cell? ⟨w.heap.size, 0, none⟩ = some (.slice bu0 nu0 cu0)) w12); obtain ⟨buu0, nuu0, cuu0, rfl⟩ := oDb_form u0; have y0' := y0.below z12 (by omega)) | (go_at_call 31; refine (eq_Db _ _ x0 x0 _ (y0'.rd reads_Db) (u0.rd reads_Db)).mono ?_; rintro e w13 ⟨rfl, z13⟩; have s12 := z12.size; have hT0 := (⟨(z13.cell (p := ⟨w8.heap.size, 0, none⟩) (by simp only []; omega)).trans hS0.1, (z13.cell (p := ⟨w.heap.size, 0, none⟩) (by simp only []; omega)).trans hS0.2⟩ : (fun W => W.cell? ⟨w8.heap.size, 0, none⟩ = some (.slice buy0 nuy0 cuy0) ∧ W.cell? ⟨w.heap.size, 0, none⟩ = some (.slice bu0 nu0 cu0)) w13)))
  replace z12 : Below w11.heap.size w11 w12 := z12
  clear u0 y0' hS0 hT0
  have t12 := z12.size
  have hb12 := on hb11 z12
  replace y0 := y0.below z12 (by omega)
  replace bp0_0 := (z12.cell (p := ⟨w.heap.size, 0, none⟩) (by simp only []; omega)).trans bp0_0
  replace bp1_0 := (z12.cell (p := ⟨w.heap.size + 1, 0, none⟩) (by simp only []; omega)).trans bp1_0
  replace bp1_1 := (z12.cell (p := ⟨w.heap.size + 1, 1, none⟩) (by simp only []; omega)).trans bp1_1
  replace bp1_2 := (z12.cell (p := ⟨w.heap.size + 1, 2, none⟩) (by simp only []; omega)).trans bp1_2
  replace bp1_3 := (z12.cell (p := ⟨w.heap.size + 1, 3, none⟩) (by simp only []; omega)).trans bp1_3
  replace by0_0 := (z12.cell (p := ⟨w8.heap.size, 0, none⟩) (by simp only []; omega)).trans by0_0
  have t13 := z13.size
  have hb13 := on hb12 z13
  replace y0 := y0.below z13 (by omega)
  replace bp0_0 := (z13.cell (p := ⟨w.heap.size, 0, none⟩) (by simp only []; omega)).trans bp0_0
  replace bp1_0 := (z13.cell (p := ⟨w.heap.size + 1, 0, none⟩) (by simp only []; omega)).trans bp1_0
  replace bp1_1 := (z13.cell (p := ⟨w.heap.size + 1, 1, none⟩) (by simp only []; omega)).trans bp1_1
  replace bp1_2 := (z13.cell (p := ⟨w.heap.size + 1, 2, none⟩) (by simp only []; omega)).trans bp1_2
  replace bp1_3 := (z13.cell (p := ⟨w.heap.size + 1, 3, none⟩) (by simp only []; omega)).trans bp1_3
  replace by0_0 := (z13.cell (p := ⟨w8.heap.size, 0, none⟩) (by simp only []; omega)).trans by0_0
  go_wp2_with fail
  go_ret
  exact ⟨rfl, hb13⟩

end Go.Proofs.Ythhbmbkecaffeaa
