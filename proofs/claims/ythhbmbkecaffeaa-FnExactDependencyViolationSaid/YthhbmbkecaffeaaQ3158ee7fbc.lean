/- Texts joined for one claim: LDependencyViolation, FDependencyViolation. -/
import Derived.Test.YthhbmbkecaffeaaQdcae0079a1
import Derived.Deep.RegionHeld3

/- The walk of the law DependencyViolation. Written by a program. -/
namespace Go.Proofs.Ythhbmbkecaffeaa
open Go.RowKit
set_option linter.unusedVariables false
set_option linter.unusedSimpArgs false
set_option synthInstance.maxSize 2000
set_option synthInstance.maxHeartbeats 400000

set_option maxHeartbeats 4000000 in
set_option maxRecDepth 100000 in
theorem walk_FnExactDependencyViolation (v0 : Value) (v1 : Value) (w : World) (h0 : kDb_in w v0) (h1 : kDp_in w v1) :
    Calls Try.prog 11 #[v0, v1] w fun e w' => e = .returned (.bool true) ∧ Below w.heap.size w w' := by
  obtain ⟨c0, x0, rfl, h0⟩ := h0
  obtain ⟨bu0, nu0, cu0, rfl⟩ := rDb_form h0
  obtain ⟨c1, x1, rfl, h1⟩ := h1
  obtain ⟨bu1, nu1, cu1, rfl⟩ := rDp_form h1
  have hb0 : Below w.heap.size w w := Below.refl _ _
  go_enter Try.func11, Try.ntmps11
  obtain ⟨w1, hw1⟩ : ∃ W, W = w.alloc (.cells #[.slice bu0 nu0 cu0] 41) := ⟨_, rfl⟩
  have z1 : Below w.heap.size w w1 := by rw [hw1]; exact (Below.refl _ _).alloc (Nat.le_refl _) _
  have s1 : w1.heap.size = w.heap.size + 1 := by rw [hw1]; simp
  have hb1 := on hb0 z1
  have bp0_0 : w1.cell? ⟨w.heap.size, 0, none⟩ = some (.slice bu0 nu0 cu0) := by rw [hw1]; exact box_cell (Below.refl _ _) rfl
  obtain ⟨w2, hw2⟩ : ∃ W, W = w1.alloc (.cells #[.string x1.1, .slice bu1 nu1 cu1, .int .i64 x1.2.2] 65) := ⟨_, rfl⟩
  have z2 : Below w1.heap.size w1 w2 := by rw [hw2]; exact (Below.refl _ _).alloc (Nat.le_refl _) _
  have s2 : w2.heap.size = w1.heap.size + 1 := by rw [hw2]; simp
  have hb2 := on hb1 z2
  replace bp0_0 := (z2.cell (p := ⟨w.heap.size, 0, none⟩) (by simp only []; omega)).trans bp0_0
  have bp1_0 : w2.cell? ⟨w1.heap.size, 0, none⟩ = some (.string x1.1) := by rw [hw2]; exact box_cell (Below.refl _ _) rfl
  have bp1_1 : w2.cell? ⟨w1.heap.size, 1, none⟩ = some (.slice bu1 nu1 cu1) := by rw [hw2]; exact box_cell (Below.refl _ _) rfl
  have bp1_2 : w2.cell? ⟨w1.heap.size, 2, none⟩ = some (.int .i64 x1.2.2) := by rw [hw2]; exact box_cell (Below.refl _ _) rfl
  have e2 : w1.heap.size = w.heap.size + 1 := by omega
  rw [e2] at bp1_0 bp1_1 bp1_2
  go_wp2_with fail
  rw [← hw1]
  clear hw1
  rw [← hw2]
  clear hw2
  refine (sz_Db _ x0 (1048576) _ (rDb.mono h0 hb2) (by omega) (by omega)).mono ?_
  rintro e w3 ⟨rfl, z3⟩
  have s3 := z3.size
  have hb3 := on hb2 z3
  replace bp0_0 := (z3.cell (p := ⟨w.heap.size, 0, none⟩) (by simp only []; omega)).trans bp0_0
  replace bp1_0 := (z3.cell (p := ⟨w.heap.size + 1, 0, none⟩) (by simp only []; omega)).trans bp1_0
  replace bp1_1 := (z3.cell (p := ⟨w.heap.size + 1, 1, none⟩) (by simp only []; omega)).trans bp1_1
  replace bp1_2 := (z3.cell (p := ⟨w.heap.size + 1, 2, none⟩) (by simp only []; omega)).trans bp1_2
  obtain ⟨q0, hq0⟩ : ∃ q, q = szR (1048576) (bulk_Db x0) := ⟨_, rfl⟩
  rw [← hq0]
  have hc0 := szR_cases (1048576) (bulk_Db x0)
  rw [← hq0] at hc0
  clear hq0
  rcases hc0 with ⟨rfl, _⟩ | ⟨hq0, hbk0⟩
  · go_wp2_with fail
    go_ret
    exact ⟨rfl, hb3⟩
  have hlo0 : 0 ≤ q0 ∧ q0 ≤ 1048576 := by omega
  have hbl0 : bulk_Db x0 ≤ 1048576 := by omega
  obtain ⟨hlo0, hlp0⟩ := hlo0
  have HQ0 := Lib.hid hq0
  clear hq0 hbk0
  go_wp2_with fail
  refine (sz_Dp _ x1 (q0) _ (rDp.mono h1 hb3) (by omega) (by omega)).mono ?_
  rintro e w4 ⟨rfl, z4⟩
  have s4 := z4.size
  have hb4 := on hb3 z4
  replace bp0_0 := (z4.cell (p := ⟨w.heap.size, 0, none⟩) (by simp only []; omega)).trans bp0_0
  replace bp1_0 := (z4.cell (p := ⟨w.heap.size + 1, 0, none⟩) (by simp only []; omega)).trans bp1_0
  replace bp1_1 := (z4.cell (p := ⟨w.heap.size + 1, 1, none⟩) (by simp only []; omega)).trans bp1_1
  replace bp1_2 := (z4.cell (p := ⟨w.heap.size + 1, 2, none⟩) (by simp only []; omega)).trans bp1_2
  obtain ⟨q1, hq1⟩ : ∃ q, q = szR (q0) (bulk_Dp x1) := ⟨_, rfl⟩
  rw [← hq1]
  have hc1 := szR_cases (q0) (bulk_Dp x1)
  rw [← hq1] at hc1
  clear hq1
  rcases hc1 with ⟨rfl, _⟩ | ⟨hq1, hbk1⟩
  · go_wp2_with fail
    go_ret
    exact ⟨rfl, hb4⟩
  have hlo1 : 0 ≤ q1 ∧ q1 ≤ 1048576 := by omega
  have hbl1 : bulk_Dp x1 ≤ 1048576 := by omega
  obtain ⟨hlo1, hlp1⟩ := hlo1
  have HQ1 := Lib.hid hq1
  clear hq1 hbk1
  go_wp2_with fail
  go_region_held3 (fun W => W.cell? ⟨w.heap.size, 0, none⟩ = some (.slice bu0 nu0 cu0) ∧ W.cell? ⟨w.heap.size + 1, 0, none⟩ = some (.string x1.1) ∧ W.cell? ⟨w.heap.size + 1, 1, none⟩ = some (.slice bu1 nu1 cu1) ∧ W.cell? ⟨w.heap.size + 1, 2, none⟩ = some (.int .i64 x1.2.2)) (first | exact ⟨bp0_0, bp1_0, bp1_1, bp1_2⟩ | assumption) (first | (go_at_call 28; with_reducible (show Calls Try.prog 28 #[.agg #[.slice bu0 nu0 cu0]] _ _); refine (to_Db _ x0 _ (rDb.mono h0 hb4.drew) (by omega)).mono ?_; rintro e w5 ⟨ct0, rfl, t0, z5⟩; replace z5 : Below w4.heap.size w4 w5 := on (Below.refl _ _).drew z5; have sz5 := z5.size; obtain ⟨but0, nut0, cut0, rfl⟩ := oDb_form t0; have hS5 := (⟨(z5.cell (p := ⟨w.heap.size, 0, none⟩) (by simp only []; omega)).trans bp0_0, (z5.cell (p := ⟨w.heap.size + 1, 0, none⟩) (by simp only []; omega)).trans bp1_0, (z5.cell (p := ⟨w.heap.size + 1, 1, none⟩) (by simp only []; omega)).trans bp1_1, (z5.cell (p := ⟨w.heap.size + 1, 2, none⟩) (by simp only []; omega)).trans bp1_2⟩ : (fun W => W.cell? ⟨w.heap.size, 0, none⟩ = some (.slice bu0 nu0 cu0) ∧ W.cell? ⟨w.heap.size + 1, 0, none⟩ = some (.string x1.1) ∧ W.cell? ⟨w.heap.size + 1, 1, none⟩ = some (.slice bu1 nu1 cu1) ∧ W.cell? ⟨w.heap.size + 1, 2, none⟩ = some (.int .i64 x1.2.2)) w5); have hx5 := on hb4 z5) | (go_at_call 39; with_reducible (show Calls Try.prog 39 #[.agg #[.string x1.1, .slice bu1 nu1 cu1, .int .i64 x1.2.2]] _ _); refine (to_Dp _ x1 _ (rDp.mono h1 hx5) (by omega)).mono ?_; rintro e w6 ⟨ct1, rfl, t1, z6⟩; have sz6 := z6.size; obtain ⟨but1, nut1, cut1, rfl⟩ := oDp_form t1; replace t0 := t0.below z6 (by omega); have hS6 := (⟨(z6.cell (p := ⟨w.heap.size, 0, none⟩) (by simp only []; omega)).trans hS5.1, (z6.cell (p := ⟨w.heap.size + 1, 0, none⟩) (by simp only []; omega)).trans hS5.2.1, (z6.cell (p := ⟨w.heap.size + 1, 1, none⟩) (by simp only []; omega)).trans hS5.2.2.1, (z6.cell (p := ⟨w.heap.size + 1, 2, none⟩) (by simp only []; omega)).trans hS5.2.2.2⟩ : (fun W => W.cell? ⟨w.heap.size, 0, none⟩ = some (.slice bu0 nu0 cu0) ∧ W.cell? ⟨w.heap.size + 1, 0, none⟩ = some (.string x1.1) ∧ W.cell? ⟨w.heap.size + 1, 1, none⟩ = some (.slice bu1 nu1 cu1) ∧ W.cell? ⟨w.heap.size + 1, 2, none⟩ = some (.int .i64 x1.2.2)) w6); have hx6 := on hx5 z6) | (go_at_call 46; refine (viol_spec _ _ x0 x1 _ (t0.rd reads_Db) (t1.rd reads_Dp)).mono ?_; rintro e w7 ⟨cW0, rfl, W0, z7⟩; have sz7 := z7.size; replace t0 := t0.below z7 (by omega); replace t1 := t1.below z7 (by omega); have hS7 := (⟨(z7.cell (p := ⟨w.heap.size, 0, none⟩) (by simp only []; omega)).trans hS6.1, (z7.cell (p := ⟨w.heap.size + 1, 0, none⟩) (by simp only []; omega)).trans hS6.2.1, (z7.cell (p := ⟨w.heap.size + 1, 1, none⟩) (by simp only []; omega)).trans hS6.2.2.1, (z7.cell (p := ⟨w.heap.size + 1, 2, none⟩) (by simp only []; omega)).trans hS6.2.2.2⟩ : (fun W => W.cell? ⟨w.heap.size, 0, none⟩ = some (.slice bu0 nu0 cu0) ∧ W.cell? ⟨w.heap.size + 1, 0, none⟩ = some (.string x1.1) ∧ W.cell? ⟨w.heap.size + 1, 1, none⟩ = some (.slice bu1 nu1 cu1) ∧ W.cell? ⟨w.heap.size + 1, 2, none⟩ = some (.int .i64 x1.2.2)) w7); have hx7 := on hx6 z7))
  replace z5 : Below w4.heap.size w4 w5 := z5
  replace z6 : Below w5.heap.size w5 w6 := z6
  replace z7 : Below w6.heap.size w6 w7 := z7
  clear hS5 hx5 hS6 hx6 hS7 hx7 t0 t1
  have t5 := z5.size
  have hb5 := on hb4 z5
  replace bp0_0 := (z5.cell (p := ⟨w.heap.size, 0, none⟩) (by simp only []; omega)).trans bp0_0
  replace bp1_0 := (z5.cell (p := ⟨w.heap.size + 1, 0, none⟩) (by simp only []; omega)).trans bp1_0
  replace bp1_1 := (z5.cell (p := ⟨w.heap.size + 1, 1, none⟩) (by simp only []; omega)).trans bp1_1
  replace bp1_2 := (z5.cell (p := ⟨w.heap.size + 1, 2, none⟩) (by simp only []; omega)).trans bp1_2
  have t6 := z6.size
  have hb6 := on hb5 z6
  replace bp0_0 := (z6.cell (p := ⟨w.heap.size, 0, none⟩) (by simp only []; omega)).trans bp0_0
  replace bp1_0 := (z6.cell (p := ⟨w.heap.size + 1, 0, none⟩) (by simp only []; omega)).trans bp1_0
  replace bp1_1 := (z6.cell (p := ⟨w.heap.size + 1, 1, none⟩) (by simp only []; omega)).trans bp1_1
  replace bp1_2 := (z6.cell (p := ⟨w.heap.size + 1, 2, none⟩) (by simp only []; omega)).trans bp1_2
  have t7 := z7.size
  have hb7 := on hb6 z7
  replace bp0_0 := (z7.cell (p := ⟨w.heap.size, 0, none⟩) (by simp only []; omega)).trans bp0_0
  replace bp1_0 := (z7.cell (p := ⟨w.heap.size + 1, 0, none⟩) (by simp only []; omega)).trans bp1_0
  replace bp1_1 := (z7.cell (p := ⟨w.heap.size + 1, 1, none⟩) (by simp only []; omega)).trans bp1_1
  replace bp1_2 := (z7.cell (p := ⟨w.heap.size + 1, 2, none⟩) (by simp only []; omega)).trans bp1_2
  go_wp2_with fail
  refine (to_Db _ _ _ (rDb.mono h0 hb7) (by omega)).mono ?_
  rintro e w8 ⟨cy0, rfl, y0, z8⟩
  have s8 := z8.size
  have hb8 := on hb7 z8
  replace W0 := W0.below z8 (by omega)
  replace bp0_0 := (z8.cell (p := ⟨w.heap.size, 0, none⟩) (by simp only []; omega)).trans bp0_0
  replace bp1_0 := (z8.cell (p := ⟨w.heap.size + 1, 0, none⟩) (by simp only []; omega)).trans bp1_0
  replace bp1_1 := (z8.cell (p := ⟨w.heap.size + 1, 1, none⟩) (by simp only []; omega)).trans bp1_1
  replace bp1_2 := (z8.cell (p := ⟨w.heap.size + 1, 2, none⟩) (by simp only []; omega)).trans bp1_2
  obtain ⟨buy0, nuy0, cuy0, rfl⟩ := oDb_form y0
  obtain ⟨w9, hw9⟩ : ∃ W, W = w8.alloc (.cells #[.slice buy0 nuy0 cuy0] 49) := ⟨_, rfl⟩
  have z9 : Below w8.heap.size w8 w9 := by rw [hw9]; exact (Below.refl _ _).alloc (Nat.le_refl _) _
  have s9 : w9.heap.size = w8.heap.size + 1 := by rw [hw9]; simp
  have hb9 := on hb8 z9
  replace W0 := W0.below z9 (by omega)
  replace y0 := y0.below z9 (by omega)
  replace bp0_0 := (z9.cell (p := ⟨w.heap.size, 0, none⟩) (by simp only []; omega)).trans bp0_0
  replace bp1_0 := (z9.cell (p := ⟨w.heap.size + 1, 0, none⟩) (by simp only []; omega)).trans bp1_0
  replace bp1_1 := (z9.cell (p := ⟨w.heap.size + 1, 1, none⟩) (by simp only []; omega)).trans bp1_1
  replace bp1_2 := (z9.cell (p := ⟨w.heap.size + 1, 2, none⟩) (by simp only []; omega)).trans bp1_2
  have by0_0 : w9.cell? ⟨w8.heap.size, 0, none⟩ = some (.slice buy0 nuy0 cuy0) := by rw [hw9]; exact box_cell (Below.refl _ _) rfl
  have raw_bp0_0 := bp0_0
  rw [hw9] at raw_bp0_0
  have raw_bp1_0 := bp1_0
  rw [hw9] at raw_bp1_0
  have raw_bp1_1 := bp1_1
  rw [hw9] at raw_bp1_1
  have raw_bp1_2 := bp1_2
  rw [hw9] at raw_bp1_2
  have raw_by0_0 := by0_0
  rw [hw9] at raw_by0_0
  go_wp2_with fail
  rw [← hw9]
  clear hw9
  clear raw_bp0_0 raw_bp1_0 raw_bp1_1 raw_bp1_2 raw_by0_0
  refine (to_Dp _ _ _ (rDp.mono h1 hb9) (by omega)).mono ?_
  rintro e w10 ⟨cy1, rfl, y1, z10⟩
  have s10 := z10.size
  have hb10 := on hb9 z10
  replace W0 := W0.below z10 (by omega)
  replace y0 := y0.below z10 (by omega)
  replace bp0_0 := (z10.cell (p := ⟨w.heap.size, 0, none⟩) (by simp only []; omega)).trans bp0_0
  replace bp1_0 := (z10.cell (p := ⟨w.heap.size + 1, 0, none⟩) (by simp only []; omega)).trans bp1_0
  replace bp1_1 := (z10.cell (p := ⟨w.heap.size + 1, 1, none⟩) (by simp only []; omega)).trans bp1_1
  replace bp1_2 := (z10.cell (p := ⟨w.heap.size + 1, 2, none⟩) (by simp only []; omega)).trans bp1_2
  replace by0_0 := (z10.cell (p := ⟨w8.heap.size, 0, none⟩) (by simp only []; omega)).trans by0_0
  obtain ⟨buy1, nuy1, cuy1, rfl⟩ := oDp_form y1
  obtain ⟨w11, hw11⟩ : ∃ W, W = w10.alloc (.cells #[.string x1.1, .slice buy1 nuy1 cuy1, .int .i64 x1.2.2] 68) := ⟨_, rfl⟩
  have z11 : Below w10.heap.size w10 w11 := by rw [hw11]; exact (Below.refl _ _).alloc (Nat.le_refl _) _
  have s11 : w11.heap.size = w10.heap.size + 1 := by rw [hw11]; simp
  have hb11 := on hb10 z11
  replace W0 := W0.below z11 (by omega)
  replace y0 := y0.below z11 (by omega)
  replace y1 := y1.below z11 (by omega)
  replace bp0_0 := (z11.cell (p := ⟨w.heap.size, 0, none⟩) (by simp only []; omega)).trans bp0_0
  replace bp1_0 := (z11.cell (p := ⟨w.heap.size + 1, 0, none⟩) (by simp only []; omega)).trans bp1_0
  replace bp1_1 := (z11.cell (p := ⟨w.heap.size + 1, 1, none⟩) (by simp only []; omega)).trans bp1_1
  replace bp1_2 := (z11.cell (p := ⟨w.heap.size + 1, 2, none⟩) (by simp only []; omega)).trans bp1_2
  replace by0_0 := (z11.cell (p := ⟨w8.heap.size, 0, none⟩) (by simp only []; omega)).trans by0_0
  have by1_0 : w11.cell? ⟨w10.heap.size, 0, none⟩ = some (.string x1.1) := by rw [hw11]; exact box_cell (Below.refl _ _) rfl
  have by1_1 : w11.cell? ⟨w10.heap.size, 1, none⟩ = some (.slice buy1 nuy1 cuy1) := by rw [hw11]; exact box_cell (Below.refl _ _) rfl
  have by1_2 : w11.cell? ⟨w10.heap.size, 2, none⟩ = some (.int .i64 x1.2.2) := by rw [hw11]; exact box_cell (Below.refl _ _) rfl
  have raw_bp0_0 := bp0_0
  rw [hw11] at raw_bp0_0
  have raw_bp1_0 := bp1_0
  rw [hw11] at raw_bp1_0
  have raw_bp1_1 := bp1_1
  rw [hw11] at raw_bp1_1
  have raw_bp1_2 := bp1_2
  rw [hw11] at raw_bp1_2
  have raw_by0_0 := by0_0
  rw [hw11] at raw_by0_0
  have raw_by1_0 := by1_0
  rw [hw11] at raw_by1_0
  have raw_by1_1 := by1_1
  rw [hw11] at raw_by1_1
  have raw_by1_2 := by1_2
  rw [hw11] at raw_by1_2
  go_wp2_with fail
  rw [← hw11]
  clear hw11
  clear raw_bp0_0 raw_bp1_0 raw_bp1_1 raw_bp1_2 raw_by0_0 raw_by1_0 raw_by1_1 raw_by1_2
  refine (viol_impl _ _ x0 x1 _ (y0.rd reads_Db) (y1.rd reads_Dp)).mono ?_
  rintro e w12 ⟨cG0, rfl, G0, z12⟩
  have s12 := z12.size
  have hb12 := on hb11 z12
  replace W0 := W0.below z12 (by omega)
  replace y0 := y0.below z12 (by omega)
  replace y1 := y1.below z12 (by omega)
  replace bp0_0 := (z12.cell (p := ⟨w.heap.size, 0, none⟩) (by simp only []; omega)).trans bp0_0
  replace bp1_0 := (z12.cell (p := ⟨w.heap.size + 1, 0, none⟩) (by simp only []; omega)).trans bp1_0
  replace bp1_1 := (z12.cell (p := ⟨w.heap.size + 1, 1, none⟩) (by simp only []; omega)).trans bp1_1
  replace bp1_2 := (z12.cell (p := ⟨w.heap.size + 1, 2, none⟩) (by simp only []; omega)).trans bp1_2
  replace by0_0 := (z12.cell (p := ⟨w8.heap.size, 0, none⟩) (by simp only []; omega)).trans by0_0
  replace by1_0 := (z12.cell (p := ⟨w10.heap.size, 0, none⟩) (by simp only []; omega)).trans by1_0
  replace by1_1 := (z12.cell (p := ⟨w10.heap.size, 1, none⟩) (by simp only []; omega)).trans by1_1
  replace by1_2 := (z12.cell (p := ⟨w10.heap.size, 2, none⟩) (by simp only []; omega)).trans by1_2
  go_wp2_with fail
  refine (eq_I _ _ _ _ _ (G0.rd reads_I) (W0.rd reads_I)).mono ?_
  rintro e w13 ⟨rfl, z13⟩
  replace z13 : Below w12.heap.size w12 w13 := z13.below _
  have s13 := z13.size
  have hb13 := on hb12 z13
  replace W0 := W0.below z13 (by omega)
  replace y0 := y0.below z13 (by omega)
  replace y1 := y1.below z13 (by omega)
  replace G0 := G0.below z13 (by omega)
  replace bp0_0 := (z13.cell (p := ⟨w.heap.size, 0, none⟩) (by simp only []; omega)).trans bp0_0
  replace bp1_0 := (z13.cell (p := ⟨w.heap.size + 1, 0, none⟩) (by simp only []; omega)).trans bp1_0
  replace bp1_1 := (z13.cell (p := ⟨w.heap.size + 1, 1, none⟩) (by simp only []; omega)).trans bp1_1
  replace bp1_2 := (z13.cell (p := ⟨w.heap.size + 1, 2, none⟩) (by simp only []; omega)).trans bp1_2
  replace by0_0 := (z13.cell (p := ⟨w8.heap.size, 0, none⟩) (by simp only []; omega)).trans by0_0
  replace by1_0 := (z13.cell (p := ⟨w10.heap.size, 0, none⟩) (by simp only []; omega)).trans by1_0
  replace by1_1 := (z13.cell (p := ⟨w10.heap.size, 1, none⟩) (by simp only []; omega)).trans by1_1
  replace by1_2 := (z13.cell (p := ⟨w10.heap.size, 2, none⟩) (by simp only []; omega)).trans by1_2
  go_wp2_with fail
  go_region_held3 (fun W => W.cell? ⟨w8.heap.size, 0, none⟩ = some (.slice buy0 nuy0 cuy0) ∧ W.cell? ⟨w.heap.size, 0, none⟩ = some (.slice bu0 nu0 cu0)) (first | exact ⟨by0_0, bp0_0⟩ | assumption) (first | (go_at_call 28; refine (to_Db _ x0 _ (rDb.mono h0 hb13.drew) (by omega)).mono ?_; rintro e w14 ⟨du0, rfl, u0, z14⟩; replace z14 : Below w13.heap.size w13 w14 := (Below.refl _ _).drew.trans z14; have hS0 := (⟨(z14.cell (p := ⟨w8.heap.size, 0, none⟩) (by simp only []; omega)).trans by0_0, (z14.cell (p := ⟨w.heap.size, 0, none⟩) (by simp only []; omega)).trans bp0_0⟩ : (fun W => W.cell? ⟨w8.heap.size, 0, none⟩ = some (.slice buy0 nuy0 cuy0) ∧ W.cell? ⟨w.heap.size, 0, none⟩ = some (.slice bu0 nu0 cu0)) w14); obtain ⟨buu0, nuu0, cuu0, rfl⟩ := oDb_form u0; have y0' := y0.below z14 (by omega)) | (go_at_call 31; refine (eq_Db _ _ x0 x0 _ (y0'.rd reads_Db) (u0.rd reads_Db)).mono ?_; rintro e w15 ⟨rfl, z15⟩; have s14 := z14.size; have hT0 := (⟨(z15.cell (p := ⟨w8.heap.size, 0, none⟩) (by simp only []; omega)).trans hS0.1, (z15.cell (p := ⟨w.heap.size, 0, none⟩) (by simp only []; omega)).trans hS0.2⟩ : (fun W => W.cell? ⟨w8.heap.size, 0, none⟩ = some (.slice buy0 nuy0 cuy0) ∧ W.cell? ⟨w.heap.size, 0, none⟩ = some (.slice bu0 nu0 cu0)) w15)))
  replace z14 : Below w13.heap.size w13 w14 := z14
  clear u0 y0' hS0 hT0
  have t14 := z14.size
  have hb14 := on hb13 z14
  replace W0 := W0.below z14 (by omega)
  replace y0 := y0.below z14 (by omega)
  replace y1 := y1.below z14 (by omega)
  replace G0 := G0.below z14 (by omega)
  replace bp0_0 := (z14.cell (p := ⟨w.heap.size, 0, none⟩) (by simp only []; omega)).trans bp0_0
  replace bp1_0 := (z14.cell (p := ⟨w.heap.size + 1, 0, none⟩) (by simp only []; omega)).trans bp1_0
  replace bp1_1 := (z14.cell (p := ⟨w.heap.size + 1, 1, none⟩) (by simp only []; omega)).trans bp1_1
  replace bp1_2 := (z14.cell (p := ⟨w.heap.size + 1, 2, none⟩) (by simp only []; omega)).trans bp1_2
  replace by0_0 := (z14.cell (p := ⟨w8.heap.size, 0, none⟩) (by simp only []; omega)).trans by0_0
  replace by1_0 := (z14.cell (p := ⟨w10.heap.size, 0, none⟩) (by simp only []; omega)).trans by1_0
  replace by1_1 := (z14.cell (p := ⟨w10.heap.size, 1, none⟩) (by simp only []; omega)).trans by1_1
  replace by1_2 := (z14.cell (p := ⟨w10.heap.size, 2, none⟩) (by simp only []; omega)).trans by1_2
  have t15 := z15.size
  have hb15 := on hb14 z15
  replace W0 := W0.below z15 (by omega)
  replace y0 := y0.below z15 (by omega)
  replace y1 := y1.below z15 (by omega)
  replace G0 := G0.below z15 (by omega)
  replace bp0_0 := (z15.cell (p := ⟨w.heap.size, 0, none⟩) (by simp only []; omega)).trans bp0_0
  replace bp1_0 := (z15.cell (p := ⟨w.heap.size + 1, 0, none⟩) (by simp only []; omega)).trans bp1_0
  replace bp1_1 := (z15.cell (p := ⟨w.heap.size + 1, 1, none⟩) (by simp only []; omega)).trans bp1_1
  replace bp1_2 := (z15.cell (p := ⟨w.heap.size + 1, 2, none⟩) (by simp only []; omega)).trans bp1_2
  replace by0_0 := (z15.cell (p := ⟨w8.heap.size, 0, none⟩) (by simp only []; omega)).trans by0_0
  replace by1_0 := (z15.cell (p := ⟨w10.heap.size, 0, none⟩) (by simp only []; omega)).trans by1_0
  replace by1_1 := (z15.cell (p := ⟨w10.heap.size, 1, none⟩) (by simp only []; omega)).trans by1_1
  replace by1_2 := (z15.cell (p := ⟨w10.heap.size, 2, none⟩) (by simp only []; omega)).trans by1_2
  go_wp2_with fail
  go_region_held3 (fun W => W.cell? ⟨w10.heap.size, 0, none⟩ = some (.string x1.1) ∧ W.cell? ⟨w10.heap.size, 1, none⟩ = some (.slice buy1 nuy1 cuy1) ∧ W.cell? ⟨w10.heap.size, 2, none⟩ = some (.int .i64 x1.2.2) ∧ W.cell? ⟨w.heap.size + 1, 0, none⟩ = some (.string x1.1) ∧ W.cell? ⟨w.heap.size + 1, 1, none⟩ = some (.slice bu1 nu1 cu1) ∧ W.cell? ⟨w.heap.size + 1, 2, none⟩ = some (.int .i64 x1.2.2)) (first | exact ⟨by1_0, by1_1, by1_2, bp1_0, bp1_1, bp1_2⟩ | assumption) (first | (go_at_call 39; refine (to_Dp _ x1 _ (rDp.mono h1 hb15.drew) (by omega)).mono ?_; rintro e w16 ⟨du1, rfl, u1, z16⟩; replace z16 : Below w15.heap.size w15 w16 := (Below.refl _ _).drew.trans z16; have hS1 := (⟨(z16.cell (p := ⟨w10.heap.size, 0, none⟩) (by simp only []; omega)).trans by1_0, (z16.cell (p := ⟨w10.heap.size, 1, none⟩) (by simp only []; omega)).trans by1_1, (z16.cell (p := ⟨w10.heap.size, 2, none⟩) (by simp only []; omega)).trans by1_2, (z16.cell (p := ⟨w.heap.size + 1, 0, none⟩) (by simp only []; omega)).trans bp1_0, (z16.cell (p := ⟨w.heap.size + 1, 1, none⟩) (by simp only []; omega)).trans bp1_1, (z16.cell (p := ⟨w.heap.size + 1, 2, none⟩) (by simp only []; omega)).trans bp1_2⟩ : (fun W => W.cell? ⟨w10.heap.size, 0, none⟩ = some (.string x1.1) ∧ W.cell? ⟨w10.heap.size, 1, none⟩ = some (.slice buy1 nuy1 cuy1) ∧ W.cell? ⟨w10.heap.size, 2, none⟩ = some (.int .i64 x1.2.2) ∧ W.cell? ⟨w.heap.size + 1, 0, none⟩ = some (.string x1.1) ∧ W.cell? ⟨w.heap.size + 1, 1, none⟩ = some (.slice bu1 nu1 cu1) ∧ W.cell? ⟨w.heap.size + 1, 2, none⟩ = some (.int .i64 x1.2.2)) w16); obtain ⟨buu1, nuu1, cuu1, rfl⟩ := oDp_form u1; have y1' := y1.below z16 (by omega)) | (go_at_call 41; refine (eq_Dp _ _ x1 x1 _ (y1'.rd reads_Dp) (u1.rd reads_Dp)).mono ?_; rintro e w17 ⟨rfl, z17⟩; have s16 := z16.size; have hT1 := (⟨(z17.cell (p := ⟨w10.heap.size, 0, none⟩) (by simp only []; omega)).trans hS1.1, (z17.cell (p := ⟨w10.heap.size, 1, none⟩) (by simp only []; omega)).trans hS1.2.1, (z17.cell (p := ⟨w10.heap.size, 2, none⟩) (by simp only []; omega)).trans hS1.2.2.1, (z17.cell (p := ⟨w.heap.size + 1, 0, none⟩) (by simp only []; omega)).trans hS1.2.2.2.1, (z17.cell (p := ⟨w.heap.size + 1, 1, none⟩) (by simp only []; omega)).trans hS1.2.2.2.2.1, (z17.cell (p := ⟨w.heap.size + 1, 2, none⟩) (by simp only []; omega)).trans hS1.2.2.2.2.2⟩ : (fun W => W.cell? ⟨w10.heap.size, 0, none⟩ = some (.string x1.1) ∧ W.cell? ⟨w10.heap.size, 1, none⟩ = some (.slice buy1 nuy1 cuy1) ∧ W.cell? ⟨w10.heap.size, 2, none⟩ = some (.int .i64 x1.2.2) ∧ W.cell? ⟨w.heap.size + 1, 0, none⟩ = some (.string x1.1) ∧ W.cell? ⟨w.heap.size + 1, 1, none⟩ = some (.slice bu1 nu1 cu1) ∧ W.cell? ⟨w.heap.size + 1, 2, none⟩ = some (.int .i64 x1.2.2)) w17)))
  replace z16 : Below w15.heap.size w15 w16 := z16
  clear u1 y1' hS1 hT1
  have t16 := z16.size
  have hb16 := on hb15 z16
  replace W0 := W0.below z16 (by omega)
  replace y0 := y0.below z16 (by omega)
  replace y1 := y1.below z16 (by omega)
  replace G0 := G0.below z16 (by omega)
  replace bp0_0 := (z16.cell (p := ⟨w.heap.size, 0, none⟩) (by simp only []; omega)).trans bp0_0
  replace bp1_0 := (z16.cell (p := ⟨w.heap.size + 1, 0, none⟩) (by simp only []; omega)).trans bp1_0
  replace bp1_1 := (z16.cell (p := ⟨w.heap.size + 1, 1, none⟩) (by simp only []; omega)).trans bp1_1
  replace bp1_2 := (z16.cell (p := ⟨w.heap.size + 1, 2, none⟩) (by simp only []; omega)).trans bp1_2
  replace by0_0 := (z16.cell (p := ⟨w8.heap.size, 0, none⟩) (by simp only []; omega)).trans by0_0
  replace by1_0 := (z16.cell (p := ⟨w10.heap.size, 0, none⟩) (by simp only []; omega)).trans by1_0
  replace by1_1 := (z16.cell (p := ⟨w10.heap.size, 1, none⟩) (by simp only []; omega)).trans by1_1
  replace by1_2 := (z16.cell (p := ⟨w10.heap.size, 2, none⟩) (by simp only []; omega)).trans by1_2
  have t17 := z17.size
  have hb17 := on hb16 z17
  replace W0 := W0.below z17 (by omega)
  replace y0 := y0.below z17 (by omega)
  replace y1 := y1.below z17 (by omega)
  replace G0 := G0.below z17 (by omega)
  replace bp0_0 := (z17.cell (p := ⟨w.heap.size, 0, none⟩) (by simp only []; omega)).trans bp0_0
  replace bp1_0 := (z17.cell (p := ⟨w.heap.size + 1, 0, none⟩) (by simp only []; omega)).trans bp1_0
  replace bp1_1 := (z17.cell (p := ⟨w.heap.size + 1, 1, none⟩) (by simp only []; omega)).trans bp1_1
  replace bp1_2 := (z17.cell (p := ⟨w.heap.size + 1, 2, none⟩) (by simp only []; omega)).trans bp1_2
  replace by0_0 := (z17.cell (p := ⟨w8.heap.size, 0, none⟩) (by simp only []; omega)).trans by0_0
  replace by1_0 := (z17.cell (p := ⟨w10.heap.size, 0, none⟩) (by simp only []; omega)).trans by1_0
  replace by1_1 := (z17.cell (p := ⟨w10.heap.size, 1, none⟩) (by simp only []; omega)).trans by1_1
  replace by1_2 := (z17.cell (p := ⟨w10.heap.size, 2, none⟩) (by simp only []; omega)).trans by1_2
  have hct0 := cnt_le_Db x0
  have hct1 := cnt_le_Dp x1
  go_wp2_with fail
  refine (mark_Db _ x0 (1) w7.heap.size w8.heap.size _ y0 (by omega) (by omega) (by omega) (by omega)).mono ?_
  rintro e w18 ⟨rfl, y0m, z18⟩
  have s18 := z18.size
  have hb18 := hb17.trans ((z18.below (by omega)).mono (by omega))
  replace W0 := W0.turn z18 (by omega)
  replace y1 := y1.turn z18 (by omega)
  replace G0 := G0.turn z18 (by omega)
  replace bp0_0 := (z18.cell (p := ⟨w.heap.size, 0, none⟩) (by simp only []; omega) (by simp only []; omega)).trans bp0_0
  replace bp1_0 := (z18.cell (p := ⟨w.heap.size + 1, 0, none⟩) (by simp only []; omega) (by simp only []; omega)).trans bp1_0
  replace bp1_1 := (z18.cell (p := ⟨w.heap.size + 1, 1, none⟩) (by simp only []; omega) (by simp only []; omega)).trans bp1_1
  replace bp1_2 := (z18.cell (p := ⟨w.heap.size + 1, 2, none⟩) (by simp only []; omega) (by simp only []; omega)).trans bp1_2
  replace by0_0 := (z18.cell (p := ⟨w8.heap.size, 0, none⟩) (by simp only []; omega) (by simp only []; omega)).trans by0_0
  replace by1_0 := (z18.cell (p := ⟨w10.heap.size, 0, none⟩) (by simp only []; omega) (by simp only []; omega)).trans by1_0
  replace by1_1 := (z18.cell (p := ⟨w10.heap.size, 1, none⟩) (by simp only []; omega) (by simp only []; omega)).trans by1_1
  replace by1_2 := (z18.cell (p := ⟨w10.heap.size, 2, none⟩) (by simp only []; omega) (by simp only []; omega)).trans by1_2
  clear y0
  clear y0m
  go_wp2_with fail
  refine (mark_Dp _ x1 (1 + (cnt_Db x0 : Int)) w9.heap.size w10.heap.size _ y1 (by omega) (by omega) (by omega) (by omega)).mono ?_
  rintro e w19 ⟨rfl, y1m, z19⟩
  have s19 := z19.size
  have hb19 := hb18.trans ((z19.below (by omega)).mono (by omega))
  replace W0 := W0.turn z19 (by omega)
  replace G0 := G0.turn z19 (by omega)
  replace bp0_0 := (z19.cell (p := ⟨w.heap.size, 0, none⟩) (by simp only []; omega) (by simp only []; omega)).trans bp0_0
  replace bp1_0 := (z19.cell (p := ⟨w.heap.size + 1, 0, none⟩) (by simp only []; omega) (by simp only []; omega)).trans bp1_0
  replace bp1_1 := (z19.cell (p := ⟨w.heap.size + 1, 1, none⟩) (by simp only []; omega) (by simp only []; omega)).trans bp1_1
  replace bp1_2 := (z19.cell (p := ⟨w.heap.size + 1, 2, none⟩) (by simp only []; omega) (by simp only []; omega)).trans bp1_2
  replace by0_0 := (z19.cell (p := ⟨w8.heap.size, 0, none⟩) (by simp only []; omega) (by simp only []; omega)).trans by0_0
  replace by1_0 := (z19.cell (p := ⟨w10.heap.size, 0, none⟩) (by simp only []; omega) (by simp only []; omega)).trans by1_0
  replace by1_1 := (z19.cell (p := ⟨w10.heap.size, 1, none⟩) (by simp only []; omega) (by simp only []; omega)).trans by1_1
  replace by1_2 := (z19.cell (p := ⟨w10.heap.size, 2, none⟩) (by simp only []; omega) (by simp only []; omega)).trans by1_2
  clear y1
  clear y1m
  go_wp2_with fail
  refine (eq_I _ _ _ _ _ (G0.rd reads_I) (W0.rd reads_I)).mono ?_
  rintro e w20 ⟨rfl, z20⟩
  replace z20 : Below w19.heap.size w19 w20 := z20.below _
  have s20 := z20.size
  have hb20 := on hb19 z20
  replace W0 := W0.below z20 (by omega)
  replace G0 := G0.below z20 (by omega)
  replace bp0_0 := (z20.cell (p := ⟨w.heap.size, 0, none⟩) (by simp only []; omega)).trans bp0_0
  replace bp1_0 := (z20.cell (p := ⟨w.heap.size + 1, 0, none⟩) (by simp only []; omega)).trans bp1_0
  replace bp1_1 := (z20.cell (p := ⟨w.heap.size + 1, 1, none⟩) (by simp only []; omega)).trans bp1_1
  replace bp1_2 := (z20.cell (p := ⟨w.heap.size + 1, 2, none⟩) (by simp only []; omega)).trans bp1_2
  replace by0_0 := (z20.cell (p := ⟨w8.heap.size, 0, none⟩) (by simp only []; omega)).trans by0_0
  replace by1_0 := (z20.cell (p := ⟨w10.heap.size, 0, none⟩) (by simp only []; omega)).trans by1_0
  replace by1_1 := (z20.cell (p := ⟨w10.heap.size, 1, none⟩) (by simp only []; omega)).trans by1_1
  replace by1_2 := (z20.cell (p := ⟨w10.heap.size, 2, none⟩) (by simp only []; omega)).trans by1_2
  have hrb0 := show cnt_I (viol x0 x1) ≤ 2 from viol_len x0 x1
  go_wp2_with fail
  refine (mark_I _ _ (1) w11.heap.size w12.heap.size _ G0 (by omega) (by omega) (by omega)).mono ?_
  rintro e w21 ⟨rfl, M0, z21⟩
  have s21 := z21.size
  have hb21 := hb20.trans ((z21.below (by omega)).mono (by omega))
  replace W0 := W0.turn z21 (by omega)
  replace bp0_0 := (z21.cell (p := ⟨w.heap.size, 0, none⟩) (by simp only []; omega) (by simp only []; omega)).trans bp0_0
  replace bp1_0 := (z21.cell (p := ⟨w.heap.size + 1, 0, none⟩) (by simp only []; omega) (by simp only []; omega)).trans bp1_0
  replace bp1_1 := (z21.cell (p := ⟨w.heap.size + 1, 1, none⟩) (by simp only []; omega) (by simp only []; omega)).trans bp1_1
  replace bp1_2 := (z21.cell (p := ⟨w.heap.size + 1, 2, none⟩) (by simp only []; omega) (by simp only []; omega)).trans bp1_2
  replace by0_0 := (z21.cell (p := ⟨w8.heap.size, 0, none⟩) (by simp only []; omega) (by simp only []; omega)).trans by0_0
  replace by1_0 := (z21.cell (p := ⟨w10.heap.size, 0, none⟩) (by simp only []; omega) (by simp only []; omega)).trans by1_0
  replace by1_1 := (z21.cell (p := ⟨w10.heap.size, 1, none⟩) (by simp only []; omega) (by simp only []; omega)).trans by1_1
  replace by1_2 := (z21.cell (p := ⟨w10.heap.size, 2, none⟩) (by simp only []; omega) (by simp only []; omega)).trans by1_2
  clear G0
  go_wp2_with fail
  refine (held_I _ _ (1) _ (M0.rd reads_I) (by omega) (by omega)).mono ?_
  rintro e w' ⟨rfl, rfl⟩
  go_wp2_with fail
  go_region_held3 (fun W => W.cell? ⟨w.heap.size, 0, none⟩ = some (.slice bu0 nu0 cu0) ∧ W.cell? ⟨w.heap.size + 1, 0, none⟩ = some (.string x1.1) ∧ W.cell? ⟨w.heap.size + 1, 1, none⟩ = some (.slice bu1 nu1 cu1) ∧ W.cell? ⟨w.heap.size + 1, 2, none⟩ = some (.int .i64 x1.2.2)) (first | exact ⟨bp0_0, bp1_0, bp1_1, bp1_2⟩ | assumption) (first | (go_at_call 28; with_reducible (show Calls Try.prog 28 #[.agg #[.slice bu0 nu0 cu0]] _ _); refine (to_Db _ x0 _ (rDb.mono h0 hb21.drew) (by omega)).mono ?_; rintro e w22 ⟨cp0, rfl, p0, z22⟩; replace z22 : Below w21.heap.size w21 w22 := on (Below.refl _ _).drew z22; have sz22 := z22.size; obtain ⟨bup0, nup0, cup0, rfl⟩ := oDb_form p0; have hS22 := (⟨(z22.cell (p := ⟨w.heap.size, 0, none⟩) (by simp only []; omega)).trans bp0_0, (z22.cell (p := ⟨w.heap.size + 1, 0, none⟩) (by simp only []; omega)).trans bp1_0, (z22.cell (p := ⟨w.heap.size + 1, 1, none⟩) (by simp only []; omega)).trans bp1_1, (z22.cell (p := ⟨w.heap.size + 1, 2, none⟩) (by simp only []; omega)).trans bp1_2⟩ : (fun W => W.cell? ⟨w.heap.size, 0, none⟩ = some (.slice bu0 nu0 cu0) ∧ W.cell? ⟨w.heap.size + 1, 0, none⟩ = some (.string x1.1) ∧ W.cell? ⟨w.heap.size + 1, 1, none⟩ = some (.slice bu1 nu1 cu1) ∧ W.cell? ⟨w.heap.size + 1, 2, none⟩ = some (.int .i64 x1.2.2)) w22); have hx22 := on hb21 z22) | (go_at_call 39; with_reducible (show Calls Try.prog 39 #[.agg #[.string x1.1, .slice bu1 nu1 cu1, .int .i64 x1.2.2]] _ _); refine (to_Dp _ x1 _ (rDp.mono h1 hx22) (by omega)).mono ?_; rintro e w23 ⟨cp1, rfl, p1, z23⟩; have sz23 := z23.size; obtain ⟨bup1, nup1, cup1, rfl⟩ := oDp_form p1; replace p0 := p0.below z23 (by omega); have hS23 := (⟨(z23.cell (p := ⟨w.heap.size, 0, none⟩) (by simp only []; omega)).trans hS22.1, (z23.cell (p := ⟨w.heap.size + 1, 0, none⟩) (by simp only []; omega)).trans hS22.2.1, (z23.cell (p := ⟨w.heap.size + 1, 1, none⟩) (by simp only []; omega)).trans hS22.2.2.1, (z23.cell (p := ⟨w.heap.size + 1, 2, none⟩) (by simp only []; omega)).trans hS22.2.2.2⟩ : (fun W => W.cell? ⟨w.heap.size, 0, none⟩ = some (.slice bu0 nu0 cu0) ∧ W.cell? ⟨w.heap.size + 1, 0, none⟩ = some (.string x1.1) ∧ W.cell? ⟨w.heap.size + 1, 1, none⟩ = some (.slice bu1 nu1 cu1) ∧ W.cell? ⟨w.heap.size + 1, 2, none⟩ = some (.int .i64 x1.2.2)) w23); have hx23 := on hx22 z23) | (go_at_call 47; refine (viol_impl _ _ x0 x1 _ (p0.rd reads_Db) (p1.rd reads_Dp)).mono ?_; rintro e w24 ⟨cH0, rfl, H0, z24⟩; have sz24 := z24.size; replace p0 := p0.below z24 (by omega); replace p1 := p1.below z24 (by omega); have hS24 := (⟨(z24.cell (p := ⟨w.heap.size, 0, none⟩) (by simp only []; omega)).trans hS23.1, (z24.cell (p := ⟨w.heap.size + 1, 0, none⟩) (by simp only []; omega)).trans hS23.2.1, (z24.cell (p := ⟨w.heap.size + 1, 1, none⟩) (by simp only []; omega)).trans hS23.2.2.1, (z24.cell (p := ⟨w.heap.size + 1, 2, none⟩) (by simp only []; omega)).trans hS23.2.2.2⟩ : (fun W => W.cell? ⟨w.heap.size, 0, none⟩ = some (.slice bu0 nu0 cu0) ∧ W.cell? ⟨w.heap.size + 1, 0, none⟩ = some (.string x1.1) ∧ W.cell? ⟨w.heap.size + 1, 1, none⟩ = some (.slice bu1 nu1 cu1) ∧ W.cell? ⟨w.heap.size + 1, 2, none⟩ = some (.int .i64 x1.2.2)) w24); have hx24 := on hx23 z24))
  replace z22 : Below w21.heap.size w21 w22 := z22
  replace z23 : Below w22.heap.size w22 w23 := z23
  replace z24 : Below w23.heap.size w23 w24 := z24
  clear hS22 hx22 hS23 hx23 hS24 hx24 p0 p1
  have t22 := z22.size
  have hb22 := on hb21 z22
  replace W0 := W0.below z22 (by omega)
  replace M0 := M0.below z22 (by omega)
  replace bp0_0 := (z22.cell (p := ⟨w.heap.size, 0, none⟩) (by simp only []; omega)).trans bp0_0
  replace bp1_0 := (z22.cell (p := ⟨w.heap.size + 1, 0, none⟩) (by simp only []; omega)).trans bp1_0
  replace bp1_1 := (z22.cell (p := ⟨w.heap.size + 1, 1, none⟩) (by simp only []; omega)).trans bp1_1
  replace bp1_2 := (z22.cell (p := ⟨w.heap.size + 1, 2, none⟩) (by simp only []; omega)).trans bp1_2
  replace by0_0 := (z22.cell (p := ⟨w8.heap.size, 0, none⟩) (by simp only []; omega)).trans by0_0
  replace by1_0 := (z22.cell (p := ⟨w10.heap.size, 0, none⟩) (by simp only []; omega)).trans by1_0
  replace by1_1 := (z22.cell (p := ⟨w10.heap.size, 1, none⟩) (by simp only []; omega)).trans by1_1
  replace by1_2 := (z22.cell (p := ⟨w10.heap.size, 2, none⟩) (by simp only []; omega)).trans by1_2
  have t23 := z23.size
  have hb23 := on hb22 z23
  replace W0 := W0.below z23 (by omega)
  replace M0 := M0.below z23 (by omega)
  replace bp0_0 := (z23.cell (p := ⟨w.heap.size, 0, none⟩) (by simp only []; omega)).trans bp0_0
  replace bp1_0 := (z23.cell (p := ⟨w.heap.size + 1, 0, none⟩) (by simp only []; omega)).trans bp1_0
  replace bp1_1 := (z23.cell (p := ⟨w.heap.size + 1, 1, none⟩) (by simp only []; omega)).trans bp1_1
  replace bp1_2 := (z23.cell (p := ⟨w.heap.size + 1, 2, none⟩) (by simp only []; omega)).trans bp1_2
  replace by0_0 := (z23.cell (p := ⟨w8.heap.size, 0, none⟩) (by simp only []; omega)).trans by0_0
  replace by1_0 := (z23.cell (p := ⟨w10.heap.size, 0, none⟩) (by simp only []; omega)).trans by1_0
  replace by1_1 := (z23.cell (p := ⟨w10.heap.size, 1, none⟩) (by simp only []; omega)).trans by1_1
  replace by1_2 := (z23.cell (p := ⟨w10.heap.size, 2, none⟩) (by simp only []; omega)).trans by1_2
  have t24 := z24.size
  have hb24 := on hb23 z24
  replace W0 := W0.below z24 (by omega)
  replace M0 := M0.below z24 (by omega)
  replace bp0_0 := (z24.cell (p := ⟨w.heap.size, 0, none⟩) (by simp only []; omega)).trans bp0_0
  replace bp1_0 := (z24.cell (p := ⟨w.heap.size + 1, 0, none⟩) (by simp only []; omega)).trans bp1_0
  replace bp1_1 := (z24.cell (p := ⟨w.heap.size + 1, 1, none⟩) (by simp only []; omega)).trans bp1_1
  replace bp1_2 := (z24.cell (p := ⟨w.heap.size + 1, 2, none⟩) (by simp only []; omega)).trans bp1_2
  replace by0_0 := (z24.cell (p := ⟨w8.heap.size, 0, none⟩) (by simp only []; omega)).trans by0_0
  replace by1_0 := (z24.cell (p := ⟨w10.heap.size, 0, none⟩) (by simp only []; omega)).trans by1_0
  replace by1_1 := (z24.cell (p := ⟨w10.heap.size, 1, none⟩) (by simp only []; omega)).trans by1_1
  replace by1_2 := (z24.cell (p := ⟨w10.heap.size, 2, none⟩) (by simp only []; omega)).trans by1_2
  go_wp2_with fail
  refine (eq_I _ _ _ _ _ (H0.rd reads_I) (W0.rd reads_I)).mono ?_
  rintro e w25 ⟨rfl, z25⟩
  replace z25 : Below w24.heap.size w24 w25 := z25.below _
  have s25 := z25.size
  have hb25 := on hb24 z25
  replace W0 := W0.below z25 (by omega)
  replace M0 := M0.below z25 (by omega)
  replace H0 := H0.below z25 (by omega)
  replace bp0_0 := (z25.cell (p := ⟨w.heap.size, 0, none⟩) (by simp only []; omega)).trans bp0_0
  replace bp1_0 := (z25.cell (p := ⟨w.heap.size + 1, 0, none⟩) (by simp only []; omega)).trans bp1_0
  replace bp1_1 := (z25.cell (p := ⟨w.heap.size + 1, 1, none⟩) (by simp only []; omega)).trans bp1_1
  replace bp1_2 := (z25.cell (p := ⟨w.heap.size + 1, 2, none⟩) (by simp only []; omega)).trans bp1_2
  replace by0_0 := (z25.cell (p := ⟨w8.heap.size, 0, none⟩) (by simp only []; omega)).trans by0_0
  replace by1_0 := (z25.cell (p := ⟨w10.heap.size, 0, none⟩) (by simp only []; omega)).trans by1_0
  replace by1_1 := (z25.cell (p := ⟨w10.heap.size, 1, none⟩) (by simp only []; omega)).trans by1_1
  replace by1_2 := (z25.cell (p := ⟨w10.heap.size, 2, none⟩) (by simp only []; omega)).trans by1_2
  go_wp2_with fail
  refine (held_I _ _ (1) _ (M0.rd reads_I) (by omega) (by omega)).mono ?_
  rintro e w' ⟨rfl, rfl⟩
  go_wp2_with fail
  go_ret
  exact ⟨rfl, hb25⟩

end Go.Proofs.Ythhbmbkecaffeaa

/- The law FnExactDependencyViolation: the walk is lifted to the given statement: for every input the law returns true and its arguments read as they did.
   No condition beside those of the row. -/
namespace Go.Proofs.Ythhbmbkecaffeaa.fnExactDependencyViolation
open Go.ChangeShapes Go.WideShapes Go.ChangeAt Go.RowKit
set_option linter.unusedVariables false

set_option maxRecDepth 100000 in
theorem lifted (os : Os) (started : os.Started) (H : Type) (enc : TypeId × Value → H) :
    ReturnsInHanded {} Try.checked os 11 .any (Rows.fnExactDependencyViolationSpec.pre6 enc Try.prog Try.f11 Rows.fnExactDependencyViolationRow.domain false) (Rows.fnExactDependencyViolationSpec.post enc Try.prog Try.f11 false true false false) := by
  refine returnsInHanded_of_change (C := Try.checked) own_knob started (by kernel_rfl) Try.func11
    (ChangeSpec.witness6 (enc := enc) (C := Try.checked) false ⟨#[], #[.agg #[.slice none 0 0], .agg #[.string ByteArray.empty, .slice none 0 0, .int .i64 0]], []⟩ 8 (by kernel_rfl) (by kernel_rfl) (by kernel_rfl) (by kernel_rfl)) ?_
  intro W base args ds gs before hval0 hW hcnd _
  have hval : ∀ (j : Nat) t v, Try.f11.params[j]? = some t → args[j]? = some v → Value.okWide Try.prog W .any base t v := hval0
  have hW' := hW
  obtain ⟨p, q, hA0, hV, rfl, hfz, hnd⟩ := hW
  have hA : DataW.TrodAll enc Try.prog W 0 (fun _ => true) true Try.f11.params.toList args.toList ds p := hA0
  rw [Try.params11] at hA hval
  obtain ⟨v0, vs0, d0, ds0, p0, q0, hargs, rfl, rfl, h0, r0⟩ := trodAll_cons hA
  obtain ⟨v1, vs1, d1, ds1, p1, q1, rfl, rfl, rfl, h1, r1⟩ := trodAll_cons r0
  obtain ⟨rfl, rfl, rfl⟩ := trodAll_nil r1
  obtain rfl : args = #[v0, v1] := by cases args; simp_all
  obtain ⟨rfl, rfl⟩ := trodVars_none hV
  have lt0 : ∀ x ∈ p0, x.block < W.heap.size := by obtain ⟨m, hm⟩ := h0; exact DataW.trod_lt m _ _ _ hm
  have w0 : kDb_in W v0 := open_kDb_in (hval 0 41 v0 rfl rfl) h0
  have lt1 : ∀ x ∈ p1, x.block < W.heap.size := by obtain ⟨m, hm⟩ := h1; exact DataW.trod_lt m _ _ _ hm
  have w1 : kDp_in W v1 := open_kDp_in (hval 1 65 v1 rfl rfl) h1
  clear hA0 hval0
  refine (walk_FnExactDependencyViolation v0 v1 W w0 w1).mono fun e W' ⟨he, bel⟩ => ?_
  subst he
  exact ⟨_, rfl, _, _, _, [], _, [], hW', trodAll_mk1 (shut_bool Try.underlying4 _), (trodAll_cons_mk (Below.trod laid_out (by kernel_rfl) (of_decide_eq_true (by kernel_rfl)) h0 bel lt0) (trodAll_cons_mk (Below.trod laid_out (by kernel_rfl) (of_decide_eq_true (by kernel_rfl)) h1 bel lt1) trodAll_mk0)), rfl, bel.frame _, fun h => by cases h⟩

theorem over : Rows.fnExactDependencyViolationRow.holds Try.pinned (OpenSpec.ofChange Rows.fnExactDependencyViolationSpec) :=
  OpenClaim.holds_of_wide 11 Try.f11 rfl rfl rfl rfl rfl rfl rfl ⟨rfl, rfl, rfl, rfl, rfl⟩ rfl rfl rfl rfl rfl (by kernel_rfl) Try.func11 (by kernel_rfl)
    (of_decide_eq_true (by kernel_rfl)) (by unfold Func.isWrapper; first | (rw [if_pos (by decide +kernel)]; kernel_rfl) | (rw [if_neg (by decide +kernel)]; exact ⟨rfl, rfl⟩))
    (fun os started H enc _ => lifted os started H enc)

/-- The statement. -/
theorem proved : Rows.FnExactDependencyViolationSaid := over
#print axioms proved
end Go.Proofs.Ythhbmbkecaffeaa.fnExactDependencyViolation
