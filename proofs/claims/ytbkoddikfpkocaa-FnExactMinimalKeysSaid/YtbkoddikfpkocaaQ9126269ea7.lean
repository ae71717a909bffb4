/- Texts joined for one claim: LMinimalKeys. -/
import Derived.Test.YtbkoddikfpkocaaQb838bb0e83
import Derived.Deep.RegionHeld3

/- The walk of the law MinimalKeys. Written by a program. -/
namespace Go.Proofs.Ytbkoddikfpkocaa
open Go.RowKit
set_option linter.unusedVariables false
set_option linter.unusedSimpArgs false
set_option synthInstance.maxSize 2000
set_option synthInstance.maxHeartbeats 400000

set_option maxHeartbeats 4000000 in
set_option maxRecDepth 100000 in
theorem walk_FnExactMinimalKeys (v0 : Value) (v1 : Value) (w : World) (h0 : kDl_in w v0) (h1 : kT_in w v1) :
    Calls Try.prog 10 #[v0, v1] w fun e w' => e = .returned (.bool true) ∧ Below w.heap.size w w' := by
  obtain ⟨v0, x0, rfl, h0⟩ := h0
  obtain ⟨c1, x1, rfl, h1⟩ := h1
  obtain ⟨bu1, nu1, cu1, rfl⟩ := rT_form h1
  have hb0 : Below w.heap.size w w := Below.refl _ _
  go_enter Try.func10, Try.ntmps10
  obtain ⟨w1, hw1⟩ : ∃ W, W = w.alloc (.cells #[.string x1.1, .int .i64 x1.2.1, .slice bu1 nu1 cu1] 67) := ⟨_, rfl⟩
  have z1 : Below w.heap.size w w1 := by rw [hw1]; exact (Below.refl _ _).alloc (Nat.le_refl _) _
  have s1 : w1.heap.size = w.heap.size + 1 := by rw [hw1]; simp
  have hb1 := on hb0 z1
  have bp1_0 : w1.cell? ⟨w.heap.size, 0, none⟩ = some (.string x1.1) := by rw [hw1]; exact box_cell (Below.refl _ _) rfl
  have bp1_1 : w1.cell? ⟨w.heap.size, 1, none⟩ = some (.int .i64 x1.2.1) := by rw [hw1]; exact box_cell (Below.refl _ _) rfl
  have bp1_2 : w1.cell? ⟨w.heap.size, 2, none⟩ = some (.slice bu1 nu1 cu1) := by rw [hw1]; exact box_cell (Below.refl _ _) rfl
  go_wp2_with fail
  rw [← hw1]
  clear hw1
  refine (sz_Dl _ x0 (1048576) _ (rDl.mono h0 hb1) (by omega) (by omega)).mono ?_
  rintro e w2 ⟨rfl, z2⟩
  have s2 := z2.size
  have hb2 := on hb1 z2
  replace bp1_0 := (z2.cell (p := ⟨w.heap.size, 0, none⟩) (by simp only []; omega)).trans bp1_0
  replace bp1_1 := (z2.cell (p := ⟨w.heap.size, 1, none⟩) (by simp only []; omega)).trans bp1_1
  replace bp1_2 := (z2.cell (p := ⟨w.heap.size, 2, none⟩) (by simp only []; omega)).trans bp1_2
  obtain ⟨q0, hq0⟩ : ∃ q, q = szR (1048576) (bulk_Dl x0) := ⟨_, rfl⟩
  rw [← hq0]
  have hc0 := szR_cases (1048576) (bulk_Dl x0)
  rw [← hq0] at hc0
  clear hq0
  rcases hc0 with ⟨rfl, _⟩ | ⟨hq0, hbk0⟩
  · go_wp2_with fail
    go_ret
    exact ⟨rfl, hb2⟩
  have hlo0 : 0 ≤ q0 ∧ q0 ≤ 1048576 := by omega
  have hbl0 : bulk_Dl x0 ≤ 1048576 := by omega
  obtain ⟨hlo0, hlp0⟩ := hlo0
  have HQ0 := Lib.hid hq0
  clear hq0 hbk0
  go_wp2_with fail
  refine (sz_T _ x1 (q0) _ (rT.mono h1 hb2) (by omega) (by omega)).mono ?_
  rintro e w3 ⟨rfl, z3⟩
  have s3 := z3.size
  have hb3 := on hb2 z3
  replace bp1_0 := (z3.cell (p := ⟨w.heap.size, 0, none⟩) (by simp only []; omega)).trans bp1_0
  replace bp1_1 := (z3.cell (p := ⟨w.heap.size, 1, none⟩) (by simp only []; omega)).trans bp1_1
  replace bp1_2 := (z3.cell (p := ⟨w.heap.size, 2, none⟩) (by simp only []; omega)).trans bp1_2
  obtain ⟨q1, hq1⟩ : ∃ q, q = szR (q0) (bulk_T x1) := ⟨_, rfl⟩
  rw [← hq1]
  have hc1 := szR_cases (q0) (bulk_T x1)
  rw [← hq1] at hc1
  clear hq1
  rcases hc1 with ⟨rfl, _⟩ | ⟨hq1, hbk1⟩
  · go_wp2_with fail
    go_ret
    exact ⟨rfl, hb3⟩
  have hlo1 : 0 ≤ q1 ∧ q1 ≤ 1048576 := by omega
  have hbl1 : bulk_T x1 ≤ 1048576 := by omega
  obtain ⟨hlo1, hlp1⟩ := hlo1
  have HQ1 := Lib.hid hq1
  clear hq1 hbk1
  go_wp2_with fail
  go_region_held3 (fun W => W.cell? ⟨w.heap.size, 0, none⟩ = some (.string x1.1) ∧ W.cell? ⟨w.heap.size, 1, none⟩ = some (.int .i64 x1.2.1) ∧ W.cell? ⟨w.heap.size, 2, none⟩ = some (.slice bu1 nu1 cu1)) (first | exact ⟨bp1_0, bp1_1, bp1_2⟩ | assumption) (first | (go_at_call 52; refine (to_Dl _ x0 _ (rDl.mono h0 hb3.drew) (by omega)).mono ?_; rintro e w4 ⟨ct0, rfl, t0, z4⟩; replace z4 : Below w3.heap.size w3 w4 := on (Below.refl _ _).drew z4; have sz4 := z4.size; have hS4 := (⟨(z4.cell (p := ⟨w.heap.size, 0, none⟩) (by simp only []; omega)).trans bp1_0, (z4.cell (p := ⟨w.heap.size, 1, none⟩) (by simp only []; omega)).trans bp1_1, (z4.cell (p := ⟨w.heap.size, 2, none⟩) (by simp only []; omega)).trans bp1_2⟩ : (fun W => W.cell? ⟨w.heap.size, 0, none⟩ = some (.string x1.1) ∧ W.cell? ⟨w.heap.size, 1, none⟩ = some (.int .i64 x1.2.1) ∧ W.cell? ⟨w.heap.size, 2, none⟩ = some (.slice bu1 nu1 cu1)) w4); have hx4 := on hb3 z4) | (go_at_call 62; with_reducible (show Calls Try.prog 62 #[.agg #[.string x1.1, .int .i64 x1.2.1, .slice bu1 nu1 cu1]] _ _); refine (to_T _ x1 _ (rT.mono h1 hx4) (by omega)).mono ?_; rintro e w5 ⟨ct1, rfl, t1, z5⟩; have sz5 := z5.size; obtain ⟨but1, nut1, cut1, rfl⟩ := oT_form t1; replace t0 := t0.below z5 (by omega); have hS5 := (⟨(z5.cell (p := ⟨w.heap.size, 0, none⟩) (by simp only []; omega)).trans hS4.1, (z5.cell (p := ⟨w.heap.size, 1, none⟩) (by simp only []; omega)).trans hS4.2.1, (z5.cell (p := ⟨w.heap.size, 2, none⟩) (by simp only []; omega)).trans hS4.2.2⟩ : (fun W => W.cell? ⟨w.heap.size, 0, none⟩ = some (.string x1.1) ∧ W.cell? ⟨w.heap.size, 1, none⟩ = some (.int .i64 x1.2.1) ∧ W.cell? ⟨w.heap.size, 2, none⟩ = some (.slice bu1 nu1 cu1)) w5); have hx5 := on hx4 z5) | (go_at_call 81; refine (minKeys_spec _ _ x0 x1 _ (t0.rd reads_Dl) (t1.rd reads_T)).mono ?_; rintro e w6 ⟨cW0, rfl, W0, z6⟩; have sz6 := z6.size; replace t0 := t0.below z6 (by omega); replace t1 := t1.below z6 (by omega); have hS6 := (⟨(z6.cell (p := ⟨w.heap.size, 0, none⟩) (by simp only []; omega)).trans hS5.1, (z6.cell (p := ⟨w.heap.size, 1, none⟩) (by simp only []; omega)).trans hS5.2.1, (z6.cell (p := ⟨w.heap.size, 2, none⟩) (by simp only []; omega)).trans hS5.2.2⟩ : (fun W => W.cell? ⟨w.heap.size, 0, none⟩ = some (.string x1.1) ∧ W.cell? ⟨w.heap.size, 1, none⟩ = some (.int .i64 x1.2.1) ∧ W.cell? ⟨w.heap.size, 2, none⟩ = some (.slice bu1 nu1 cu1)) w6); have hx6 := on hx5 z6))
  replace z4 : Below w3.heap.size w3 w4 := z4
  replace z5 : Below w4.heap.size w4 w5 := z5
  replace z6 : Below w5.heap.size w5 w6 := z6
  clear hS4 hx4 hS5 hx5 hS6 hx6 t0 t1
  have t4 := z4.size
  have hb4 := on hb3 z4
  replace bp1_0 := (z4.cell (p := ⟨w.heap.size, 0, none⟩) (by simp only []; omega)).trans bp1_0
  replace bp1_1 := (z4.cell (p := ⟨w.heap.size, 1, none⟩) (by simp only []; omega)).trans bp1_1
  replace bp1_2 := (z4.cell (p := ⟨w.heap.size, 2, none⟩) (by simp only []; omega)).trans bp1_2
  have t5 := z5.size
  have hb5 := on hb4 z5
  replace bp1_0 := (z5.cell (p := ⟨w.heap.size, 0, none⟩) (by simp only []; omega)).trans bp1_0
  replace bp1_1 := (z5.cell (p := ⟨w.heap.size, 1, none⟩) (by simp only []; omega)).trans bp1_1
  replace bp1_2 := (z5.cell (p := ⟨w.heap.size, 2, none⟩) (by simp only []; omega)).trans bp1_2
  have t6 := z6.size
  have hb6 := on hb5 z6
  replace bp1_0 := (z6.cell (p := ⟨w.heap.size, 0, none⟩) (by simp only []; omega)).trans bp1_0
  replace bp1_1 := (z6.cell (p := ⟨w.heap.size, 1, none⟩) (by simp only []; omega)).trans bp1_1
  replace bp1_2 := (z6.cell (p := ⟨w.heap.size, 2, none⟩) (by simp only []; omega)).trans bp1_2
  go_wp2_with fail
  refine (to_Dl _ _ _ (rDl.mono h0 hb6) (by omega)).mono ?_
  rintro e w7 ⟨cy0, rfl, y0, z7⟩
  have s7 := z7.size
  have hb7 := on hb6 z7
  replace W0 := W0.below z7 (by omega)
  replace bp1_0 := (z7.cell (p := ⟨w.heap.size, 0, none⟩) (by simp only []; omega)).trans bp1_0
  replace bp1_1 := (z7.cell (p := ⟨w.heap.size, 1, none⟩) (by simp only []; omega)).trans bp1_1
  replace bp1_2 := (z7.cell (p := ⟨w.heap.size, 2, none⟩) (by simp only []; omega)).trans bp1_2
  go_wp2_with fail
  refine (to_T _ _ _ (rT.mono h1 hb7) (by omega)).mono ?_
  rintro e w8 ⟨cy1, rfl, y1, z8⟩
  have s8 := z8.size
  have hb8 := on hb7 z8
  replace W0 := W0.below z8 (by omega)
  replace y0 := y0.below z8 (by omega)
  replace bp1_0 := (z8.cell (p := ⟨w.heap.size, 0, none⟩) (by simp only []; omega)).trans bp1_0
  replace bp1_1 := (z8.cell (p := ⟨w.heap.size, 1, none⟩) (by simp only []; omega)).trans bp1_1
  replace bp1_2 := (z8.cell (p := ⟨w.heap.size, 2, none⟩) (by simp only []; omega)).trans bp1_2
  obtain ⟨buy1, nuy1, cuy1, rfl⟩ := oT_form y1
  obtain ⟨w9, hw9⟩ : ∃ W, W = w8.alloc (.cells #[.string x1.1, .int .i64 x1.2.1, .slice buy1 nuy1 cuy1] 34) := ⟨_, rfl⟩
  have z9 : Below w8.heap.size w8 w9 := by rw [hw9]; exact (Below.refl _ _).alloc (Nat.le_refl _) _
  have s9 : w9.heap.size = w8.heap.size + 1 := by rw [hw9]; simp
  have hb9 := on hb8 z9
  replace W0 := W0.below z9 (by omega)
  replace y0 := y0.below z9 (by omega)
  replace y1 := y1.below z9 (by omega)
  replace bp1_0 := (z9.cell (p := ⟨w.heap.size, 0, none⟩) (by simp only []; omega)).trans bp1_0
  replace bp1_1 := (z9.cell (p := ⟨w.heap.size, 1, none⟩) (by simp only []; omega)).trans bp1_1
  replace bp1_2 := (z9.cell (p := ⟨w.heap.size, 2, none⟩) (by simp only []; omega)).trans bp1_2
  have by1_0 : w9.cell? ⟨w8.heap.size, 0, none⟩ = some (.string x1.1) := by rw [hw9]; exact box_cell (Below.refl _ _) rfl
  have by1_1 : w9.cell? ⟨w8.heap.size, 1, none⟩ = some (.int .i64 x1.2.1) := by rw [hw9]; exact box_cell (Below.refl _ _) rfl
  have by1_2 : w9.cell? ⟨w8.heap.size, 2, none⟩ = some (.slice buy1 nuy1 cuy1) := by rw [hw9]; exact box_cell (Below.refl _ _) rfl
  have raw_bp1_0 := bp1_0
  rw [hw9] at raw_bp1_0
  have raw_bp1_1 := bp1_1
  rw [hw9] at raw_bp1_1
  have raw_bp1_2 := bp1_2
  rw [hw9] at raw_bp1_2
  have raw_by1_0 := by1_0
  rw [hw9] at raw_by1_0
  have raw_by1_1 := by1_1
  rw [hw9] at raw_by1_1
  have raw_by1_2 := by1_2
  rw [hw9] at raw_by1_2
  go_wp2_with fail
  rw [← hw9]
  clear hw9
  clear raw_bp1_0 raw_bp1_1 raw_bp1_2 raw_by1_0 raw_by1_1 raw_by1_2
  refine (minKeys_impl _ _ x0 x1 _ (y0.rd reads_Dl) (y1.rd reads_T) (by omega)).mono ?_
  rintro e w10 ⟨cG0, rfl, G0, z10⟩
  have s10 := z10.size
  have hb10 := on hb9 z10
  replace W0 := W0.below z10 (by omega)
  replace y0 := y0.below z10 (by omega)
  replace y1 := y1.below z10 (by omega)
  replace bp1_0 := (z10.cell (p := ⟨w.heap.size, 0, none⟩) (by simp only []; omega)).trans bp1_0
  replace bp1_1 := (z10.cell (p := ⟨w.heap.size, 1, none⟩) (by simp only []; omega)).trans bp1_1
  replace bp1_2 := (z10.cell (p := ⟨w.heap.size, 2, none⟩) (by simp only []; omega)).trans bp1_2
  replace by1_0 := (z10.cell (p := ⟨w8.heap.size, 0, none⟩) (by simp only []; omega)).trans by1_0
  replace by1_1 := (z10.cell (p := ⟨w8.heap.size, 1, none⟩) (by simp only []; omega)).trans by1_1
  replace by1_2 := (z10.cell (p := ⟨w8.heap.size, 2, none⟩) (by simp only []; omega)).trans by1_2
  go_wp2_with fail
  refine (eq_II _ _ _ _ _ (G0.rd reads_II) (W0.rd reads_II)).mono ?_
  rintro e w11 ⟨rfl, z11⟩
  have s11 := z11.size
  have hb11 := on hb10 z11
  replace W0 := W0.below z11 (by omega)
  replace y0 := y0.below z11 (by omega)
  replace y1 := y1.below z11 (by omega)
  replace G0 := G0.below z11 (by omega)
  replace bp1_0 := (z11.cell (p := ⟨w.heap.size, 0, none⟩) (by simp only []; omega)).trans bp1_0
  replace bp1_1 := (z11.cell (p := ⟨w.heap.size, 1, none⟩) (by simp only []; omega)).trans bp1_1
  replace bp1_2 := (z11.cell (p := ⟨w.heap.size, 2, none⟩) (by simp only []; omega)).trans bp1_2
  replace by1_0 := (z11.cell (p := ⟨w8.heap.size, 0, none⟩) (by simp only []; omega)).trans by1_0
  replace by1_1 := (z11.cell (p := ⟨w8.heap.size, 1, none⟩) (by simp only []; omega)).trans by1_1
  replace by1_2 := (z11.cell (p := ⟨w8.heap.size, 2, none⟩) (by simp only []; omega)).trans by1_2
  go_wp2_with fail
  refine (to_Dl _ _ _ (rDl.mono h0 hb11) (by omega)).mono ?_
  rintro e w12 ⟨cu0, rfl, u0, z12⟩
  have s12 := z12.size
  have hb12 := on hb11 z12
  replace W0 := W0.below z12 (by omega)
  replace y0 := y0.below z12 (by omega)
  replace y1 := y1.below z12 (by omega)
  replace G0 := G0.below z12 (by omega)
  replace bp1_0 := (z12.cell (p := ⟨w.heap.size, 0, none⟩) (by simp only []; omega)).trans bp1_0
  replace bp1_1 := (z12.cell (p := ⟨w.heap.size, 1, none⟩) (by simp only []; omega)).trans bp1_1
  replace bp1_2 := (z12.cell (p := ⟨w.heap.size, 2, none⟩) (by simp only []; omega)).trans bp1_2
  replace by1_0 := (z12.cell (p := ⟨w8.heap.size, 0, none⟩) (by simp only []; omega)).trans by1_0
  replace by1_1 := (z12.cell (p := ⟨w8.heap.size, 1, none⟩) (by simp only []; omega)).trans by1_1
  replace by1_2 := (z12.cell (p := ⟨w8.heap.size, 2, none⟩) (by simp only []; omega)).trans by1_2
  go_wp2_with fail
  refine (eq_Dl _ _ _ _ _ (y0.rd reads_Dl) (u0.rd reads_Dl)).mono ?_
  rintro e w13 ⟨rfl, z13⟩
  have s13 := z13.size
  have hb13 := on hb12 z13
  replace W0 := W0.below z13 (by omega)
  replace y0 := y0.below z13 (by omega)
  replace y1 := y1.below z13 (by omega)
  replace G0 := G0.below z13 (by omega)
  replace u0 := u0.below z13 (by omega)
  replace bp1_0 := (z13.cell (p := ⟨w.heap.size, 0, none⟩) (by simp only []; omega)).trans bp1_0
  replace bp1_1 := (z13.cell (p := ⟨w.heap.size, 1, none⟩) (by simp only []; omega)).trans bp1_1
  replace bp1_2 := (z13.cell (p := ⟨w.heap.size, 2, none⟩) (by simp only []; omega)).trans bp1_2
  replace by1_0 := (z13.cell (p := ⟨w8.heap.size, 0, none⟩) (by simp only []; omega)).trans by1_0
  replace by1_1 := (z13.cell (p := ⟨w8.heap.size, 1, none⟩) (by simp only []; omega)).trans by1_1
  replace by1_2 := (z13.cell (p := ⟨w8.heap.size, 2, none⟩) (by simp only []; omega)).trans by1_2
  clear u0
  go_wp2_with fail
  go_region_held3 (fun W => W.cell? ⟨w8.heap.size, 0, none⟩ = some (.string x1.1) ∧ W.cell? ⟨w8.heap.size, 1, none⟩ = some (.int .i64 x1.2.1) ∧ W.cell? ⟨w8.heap.size, 2, none⟩ = some (.slice buy1 nuy1 cuy1) ∧ W.cell? ⟨w.heap.size, 0, none⟩ = some (.string x1.1) ∧ W.cell? ⟨w.heap.size, 1, none⟩ = some (.int .i64 x1.2.1) ∧ W.cell? ⟨w.heap.size, 2, none⟩ = some (.slice bu1 nu1 cu1)) (first | exact ⟨by1_0, by1_1, by1_2, bp1_0, bp1_1, bp1_2⟩ | assumption) (first | (go_at_call 62; refine (to_T _ x1 _ (rT.mono h1 hb13.drew) (by omega)).mono ?_; rintro e w14 ⟨du1, rfl, u1, z14⟩; replace z14 : Below w13.heap.size w13 w14 := (Below.refl _ _).drew.trans z14; have hS1 := (⟨(z14.cell (p := ⟨w8.heap.size, 0, none⟩) (by simp only []; omega)).trans by1_0, (z14.cell (p := ⟨w8.heap.size, 1, none⟩) (by simp only []; omega)).trans by1_1, (z14.cell (p := ⟨w8.heap.size, 2, none⟩) (by simp only []; omega)).trans by1_2, (z14.cell (p := ⟨w.heap.size, 0, none⟩) (by simp only []; omega)).trans bp1_0, (z14.cell (p := ⟨w.heap.size, 1, none⟩) (by simp only []; omega)).trans bp1_1, (z14.cell (p := ⟨w.heap.size, 2, none⟩) (by simp only []; omega)).trans bp1_2⟩ : (fun W => W.cell? ⟨w8.heap.size, 0, none⟩ = some (.string x1.1) ∧ W.cell? ⟨w8.heap.size, 1, none⟩ = some (.int .i64 x1.2.1) ∧ W.cell? ⟨w8.heap.size, 2, none⟩ = some (.slice buy1 nuy1 cuy1) ∧ W.cell? ⟨w.heap.size, 0, none⟩ = some (.string x1.1) ∧ W.cell? ⟨w.heap.size, 1, none⟩ = some (.int .i64 x1.2.1) ∧ W.cell? ⟨w.heap.size, 2, none⟩ = some (.slice bu1 nu1 cu1)) w14); obtain ⟨buu1, nuu1, cuu1, rfl⟩ := oT_form u1; have y1' := y1.below z14 (by omega)) | (go_at_call 65; refine (eq_T _ _ x1 x1 _ (y1'.rd reads_T) (u1.rd reads_T)).mono ?_; rintro e w15 ⟨rfl, z15⟩; have s14 := z14.size; have hT1 := (⟨(z15.cell (p := ⟨w8.heap.size, 0, none⟩) (by simp only []; omega)).trans hS1.1, (z15.cell (p := ⟨w8.heap.size, 1, none⟩) (by simp only []; omega)).trans hS1.2.1, (z15.cell (p := ⟨w8.heap.size, 2, none⟩) (by simp only []; omega)).trans hS1.2.2.1, (z15.cell (p := ⟨w.heap.size, 0, none⟩) (by simp only []; omega)).trans hS1.2.2.2.1, (z15.cell (p := ⟨w.heap.size, 1, none⟩) (by simp only []; omega)).trans hS1.2.2.2.2.1, (z15.cell (p := ⟨w.heap.size, 2, none⟩) (by simp only []; omega)).trans hS1.2.2.2.2.2⟩ : (fun W => W.cell? ⟨w8.heap.size, 0, none⟩ = some (.string x1.1) ∧ W.cell? ⟨w8.heap.size, 1, none⟩ = some (.int .i64 x1.2.1) ∧ W.cell? ⟨w8.heap.size, 2, none⟩ = some (.slice buy1 nuy1 cuy1) ∧ W.cell? ⟨w.heap.size, 0, none⟩ = some (.string x1.1) ∧ W.cell? ⟨w.heap.size, 1, none⟩ = some (.int .i64 x1.2.1) ∧ W.cell? ⟨w.heap.size, 2, none⟩ = some (.slice bu1 nu1 cu1)) w15)))
  replace z14 : Below w13.heap.size w13 w14 := z14
  clear u1 y1' hS1 hT1
  have t14 := z14.size
  have hb14 := on hb13 z14
  replace W0 := W0.below z14 (by omega)
  replace y0 := y0.below z14 (by omega)
  replace y1 := y1.below z14 (by omega)
  replace G0 := G0.below z14 (by omega)
  replace bp1_0 := (z14.cell (p := ⟨w.heap.size, 0, none⟩) (by simp only []; omega)).trans bp1_0
  replace bp1_1 := (z14.cell (p := ⟨w.heap.size, 1, none⟩) (by simp only []; omega)).trans bp1_1
  replace bp1_2 := (z14.cell (p := ⟨w.heap.size, 2, none⟩) (by simp only []; omega)).trans bp1_2
  replace by1_0 := (z14.cell (p := ⟨w8.heap.size, 0, none⟩) (by simp only []; omega)).trans by1_0
  replace by1_1 := (z14.cell (p := ⟨w8.heap.size, 1, none⟩) (by simp only []; omega)).trans by1_1
  replace by1_2 := (z14.cell (p := ⟨w8.heap.size, 2, none⟩) (by simp only []; omega)).trans by1_2
  have t15 := z15.size
  have hb15 := on hb14 z15
  replace W0 := W0.below z15 (by omega)
  replace y0 := y0.below z15 (by omega)
  replace y1 := y1.below z15 (by omega)
  replace G0 := G0.below z15 (by omega)
  replace bp1_0 := (z15.cell (p := ⟨w.heap.size, 0, none⟩) (by simp only []; omega)).trans bp1_0
  replace bp1_1 := (z15.cell (p := ⟨w.heap.size, 1, none⟩) (by simp only []; omega)).trans bp1_1
  replace bp1_2 := (z15.cell (p := ⟨w.heap.size, 2, none⟩) (by simp only []; omega)).trans bp1_2
  replace by1_0 := (z15.cell (p := ⟨w8.heap.size, 0, none⟩) (by simp only []; omega)).trans by1_0
  replace by1_1 := (z15.cell (p := ⟨w8.heap.size, 1, none⟩) (by simp only []; omega)).trans by1_1
  replace by1_2 := (z15.cell (p := ⟨w8.heap.size, 2, none⟩) (by simp only []; omega)).trans by1_2
  have hct0 := cnt_le_Dl x0
  have hct1 := cnt_le_T x1
  go_wp2_with fail
  refine (mark_Dl _ x0 (1) w6.heap.size w7.heap.size _ y0 (by omega) (by omega) (by omega) (by omega)).mono ?_
  rintro e w16 ⟨rfl, y0m, z16⟩
  have s16 := z16.size
  have hb16 := hb15.trans ((z16.below (by omega)).mono (by omega))
  replace W0 := W0.turn z16 (by omega)
  replace y1 := y1.turn z16 (by omega)
  replace G0 := G0.turn z16 (by omega)
  replace bp1_0 := (z16.cell (p := ⟨w.heap.size, 0, none⟩) (by simp only []; omega) (by simp only []; omega)).trans bp1_0
  replace bp1_1 := (z16.cell (p := ⟨w.heap.size, 1, none⟩) (by simp only []; omega) (by simp only []; omega)).trans bp1_1
  replace bp1_2 := (z16.cell (p := ⟨w.heap.size, 2, none⟩) (by simp only []; omega) (by simp only []; omega)).trans bp1_2
  replace by1_0 := (z16.cell (p := ⟨w8.heap.size, 0, none⟩) (by simp only []; omega) (by simp only []; omega)).trans by1_0
  replace by1_1 := (z16.cell (p := ⟨w8.heap.size, 1, none⟩) (by simp only []; omega) (by simp only []; omega)).trans by1_1
  replace by1_2 := (z16.cell (p := ⟨w8.heap.size, 2, none⟩) (by simp only []; omega) (by simp only []; omega)).trans by1_2
  clear y0
  clear y0m
  go_wp2_with fail
  refine (mark_T _ x1 (1 + (cnt_Dl x0 : Int)) w7.heap.size w8.heap.size _ y1 (by omega) (by omega) (by omega) (by omega)).mono ?_
  rintro e w17 ⟨rfl, y1m, z17⟩
  have s17 := z17.size
  have hb17 := hb16.trans ((z17.below (by omega)).mono (by omega))
  replace W0 := W0.turn z17 (by omega)
  replace G0 := G0.turn z17 (by omega)
  replace bp1_0 := (z17.cell (p := ⟨w.heap.size, 0, none⟩) (by simp only []; omega) (by simp only []; omega)).trans bp1_0
  replace bp1_1 := (z17.cell (p := ⟨w.heap.size, 1, none⟩) (by simp only []; omega) (by simp only []; omega)).trans bp1_1
  replace bp1_2 := (z17.cell (p := ⟨w.heap.size, 2, none⟩) (by simp only []; omega) (by simp only []; omega)).trans bp1_2
  replace by1_0 := (z17.cell (p := ⟨w8.heap.size, 0, none⟩) (by simp only []; omega) (by simp only []; omega)).trans by1_0
  replace by1_1 := (z17.cell (p := ⟨w8.heap.size, 1, none⟩) (by simp only []; omega) (by simp only []; omega)).trans by1_1
  replace by1_2 := (z17.cell (p := ⟨w8.heap.size, 2, none⟩) (by simp only []; omega) (by simp only []; omega)).trans by1_2
  clear y1
  clear y1m
  go_wp2_with fail
  refine (eq_II _ _ _ _ _ (G0.rd reads_II) (W0.rd reads_II)).mono ?_
  rintro e w18 ⟨rfl, z18⟩
  have s18 := z18.size
  have hb18 := on hb17 z18
  replace W0 := W0.below z18 (by omega)
  replace G0 := G0.below z18 (by omega)
  replace bp1_0 := (z18.cell (p := ⟨w.heap.size, 0, none⟩) (by simp only []; omega)).trans bp1_0
  replace bp1_1 := (z18.cell (p := ⟨w.heap.size, 1, none⟩) (by simp only []; omega)).trans bp1_1
  replace bp1_2 := (z18.cell (p := ⟨w.heap.size, 2, none⟩) (by simp only []; omega)).trans bp1_2
  replace by1_0 := (z18.cell (p := ⟨w8.heap.size, 0, none⟩) (by simp only []; omega)).trans by1_0
  replace by1_1 := (z18.cell (p := ⟨w8.heap.size, 1, none⟩) (by simp only []; omega)).trans by1_1
  replace by1_2 := (z18.cell (p := ⟨w8.heap.size, 2, none⟩) (by simp only []; omega)).trans by1_2
  have hrb0 := minKeys_bulk x0 x1
  go_wp2_with fail
  refine (mark_II _ _ (1) w9.heap.size w10.heap.size _ G0 (by omega) (by omega) (by omega) (by omega)).mono ?_
  rintro e w19 ⟨rfl, M0, z19⟩
  have s19 := z19.size
  have hb19 := hb18.trans ((z19.below (by omega)).mono (by omega))
  replace W0 := W0.turn z19 (by omega)
  replace bp1_0 := (z19.cell (p := ⟨w.heap.size, 0, none⟩) (by simp only []; omega) (by simp only []; omega)).trans bp1_0
  replace bp1_1 := (z19.cell (p := ⟨w.heap.size, 1, none⟩) (by simp only []; omega) (by simp only []; omega)).trans bp1_1
  replace bp1_2 := (z19.cell (p := ⟨w.heap.size, 2, none⟩) (by simp only []; omega) (by simp only []; omega)).trans bp1_2
  replace by1_0 := (z19.cell (p := ⟨w8.heap.size, 0, none⟩) (by simp only []; omega) (by simp only []; omega)).trans by1_0
  replace by1_1 := (z19.cell (p := ⟨w8.heap.size, 1, none⟩) (by simp only []; omega) (by simp only []; omega)).trans by1_1
  replace by1_2 := (z19.cell (p := ⟨w8.heap.size, 2, none⟩) (by simp only []; omega) (by simp only []; omega)).trans by1_2
  clear G0
  go_wp2_with fail
  refine (held_II _ _ (1) _ (M0.rd reads_II) (by omega) (by omega) (by omega)).mono ?_
  rintro e w' ⟨rfl, rfl⟩
  go_wp2_with fail
  go_region_held3 (fun W => W.cell? ⟨w.heap.size, 0, none⟩ = some (.string x1.1) ∧ W.cell? ⟨w.heap.size, 1, none⟩ = some (.int .i64 x1.2.1) ∧ W.cell? ⟨w.heap.size, 2, none⟩ = some (.slice bu1 nu1 cu1)) (first | exact ⟨bp1_0, bp1_1, bp1_2⟩ | assumption) (first | (go_at_call 52; refine (to_Dl _ x0 _ (rDl.mono h0 hb19.drew) (by omega)).mono ?_; rintro e w20 ⟨cp0, rfl, p0, z20⟩; replace z20 : Below w19.heap.size w19 w20 := on (Below.refl _ _).drew z20; have sz20 := z20.size; have hS20 := (⟨(z20.cell (p := ⟨w.heap.size, 0, none⟩) (by simp only []; omega)).trans bp1_0, (z20.cell (p := ⟨w.heap.size, 1, none⟩) (by simp only []; omega)).trans bp1_1, (z20.cell (p := ⟨w.heap.size, 2, none⟩) (by simp only []; omega)).trans bp1_2⟩ : (fun W => W.cell? ⟨w.heap.size, 0, none⟩ = some (.string x1.1) ∧ W.cell? ⟨w.heap.size, 1, none⟩ = some (.int .i64 x1.2.1) ∧ W.cell? ⟨w.heap.size, 2, none⟩ = some (.slice bu1 nu1 cu1)) w20); have hx20 := on hb19 z20) | (go_at_call 62; with_reducible (show Calls Try.prog 62 #[.agg #[.string x1.1, .int .i64 x1.2.1, .slice bu1 nu1 cu1]] _ _); refine (to_T _ x1 _ (rT.mono h1 hx20) (by omega)).mono ?_; rintro e w21 ⟨cp1, rfl, p1, z21⟩; have sz21 := z21.size; obtain ⟨bup1, nup1, cup1, rfl⟩ := oT_form p1; replace p0 := p0.below z21 (by omega); have hS21 := (⟨(z21.cell (p := ⟨w.heap.size, 0, none⟩) (by simp only []; omega)).trans hS20.1, (z21.cell (p := ⟨w.heap.size, 1, none⟩) (by simp only []; omega)).trans hS20.2.1, (z21.cell (p := ⟨w.heap.size, 2, none⟩) (by simp only []; omega)).trans hS20.2.2⟩ : (fun W => W.cell? ⟨w.heap.size, 0, none⟩ = some (.string x1.1) ∧ W.cell? ⟨w.heap.size, 1, none⟩ = some (.int .i64 x1.2.1) ∧ W.cell? ⟨w.heap.size, 2, none⟩ = some (.slice bu1 nu1 cu1)) w21); have hx21 := on hx20 z21) | (go_at_call 82; refine (minKeys_impl _ _ x0 x1 _ (p0.rd reads_Dl) (p1.rd reads_T) (by omega)).mono ?_; rintro e w22 ⟨cH0, rfl, H0, z22⟩; have sz22 := z22.size; replace p0 := p0.below z22 (by omega); replace p1 := p1.below z22 (by omega); have hS22 := (⟨(z22.cell (p := ⟨w.heap.size, 0, none⟩) (by simp only []; omega)).trans hS21.1, (z22.cell (p := ⟨w.heap.size, 1, none⟩) (by simp only []; omega)).trans hS21.2.1, (z22.cell (p := ⟨w.heap.size, 2, none⟩) (by simp only []; omega)).trans hS21.2.2⟩ : (fun W => W.cell? ⟨w.heap.size, 0, none⟩ = some (.string x1.1) ∧ W.cell? ⟨w.heap.size, 1, none⟩ = some (.int .i64 x1.2.1) ∧ W.cell? ⟨w.heap.size, 2, none⟩ = some (.slice bu1 nu1 cu1)) w22); have hx22 := on hx21 z22))
  replace z20 : Below w19.heap.size w19 w20 := z20
  replace z21 : Below w20.heap.size w20 w21 := z21
  replace z22 : Below w21.heap.size w21 w22 := z22
  clear hS20 hx20 hS21 hx21 hS22 hx22 p0 p1
  have t20 := z20.size
  have hb20 := on hb19 z20
  replace W0 := W0.below z20 (by omega)
  replace M0 := M0.below z20 (by omega)
  replace bp1_0 := (z20.cell (p := ⟨w.heap.size, 0, none⟩) (by simp only []; omega)).trans bp1_0
  replace bp1_1 := (z20.cell (p := ⟨w.heap.size, 1, none⟩) (by simp only []; omega)).trans bp1_1
  replace bp1_2 := (z20.cell (p := ⟨w.heap.size, 2, none⟩) (by simp only []; omega)).trans bp1_2
  replace by1_0 := (z20.cell (p := ⟨w8.heap.size, 0, none⟩) (by simp only []; omega)).trans by1_0
  replace by1_1 := (z20.cell (p := ⟨w8.heap.size, 1, none⟩) (by simp only []; omega)).trans by1_1
  replace by1_2 := (z20.cell (p := ⟨w8.heap.size, 2, none⟩) (by simp only []; omega)).trans by1_2
  have t21 := z21.size
  have hb21 := on hb20 z21
  replace W0 := W0.below z21 (by omega)
  replace M0 := M0.below z21 (by omega)
  replace bp1_0 := (z21.cell (p := ⟨w.heap.size, 0, none⟩) (by simp only []; omega)).trans bp1_0
  replace bp1_1 := (z21.cell (p := ⟨w.heap.size, 1, none⟩) (by simp only []; omega)).trans bp1_1
  replace bp1_2 := (z21.cell (p := ⟨w.heap.size, 2, none⟩) (by simp only []; omega)).trans bp1_2
  replace by1_0 := (z21.cell (p := ⟨w8.heap.size, 0, none⟩) (by simp only []; omega)).trans by1_0
  replace by1_1 := (z21.cell (p := ⟨w8.heap.size, 1, none⟩) (by simp only []; omega)).trans by1_1
  replace by1_2 := (z21.cell (p := ⟨w8.heap.size, 2, none⟩) (by simp only []; omega)).trans by1_2
  have t22 := z22.size
  have hb22 := on hb21 z22
  replace W0 := W0.below z22 (by omega)
  replace M0 := M0.below z22 (by omega)
  replace bp1_0 := (z22.cell (p := ⟨w.heap.size, 0, none⟩) (by simp only []; omega)).trans bp1_0
  replace bp1_1 := (z22.cell (p := ⟨w.heap.size, 1, none⟩) (by simp only []; omega)).trans bp1_1
  replace bp1_2 := (z22.cell (p := ⟨w.heap.size, 2, none⟩) (by simp only []; omega)).trans bp1_2
  replace by1_0 := (z22.cell (p := ⟨w8.heap.size, 0, none⟩) (by simp only []; omega)).trans by1_0
  replace by1_1 := (z22.cell (p := ⟨w8.heap.size, 1, none⟩) (by simp only []; omega)).trans by1_1
  replace by1_2 := (z22.cell (p := ⟨w8.heap.size, 2, none⟩) (by simp only []; omega)).trans by1_2
  go_wp2_with fail
  refine (eq_II _ _ _ _ _ (H0.rd reads_II) (W0.rd reads_II)).mono ?_
  rintro e w23 ⟨rfl, z23⟩
  have s23 := z23.size
  have hb23 := on hb22 z23
  replace W0 := W0.below z23 (by omega)
  replace M0 := M0.below z23 (by omega)
  replace H0 := H0.below z23 (by omega)
  replace bp1_0 := (z23.cell (p := ⟨w.heap.size, 0, none⟩) (by simp only []; omega)).trans bp1_0
  replace bp1_1 := (z23.cell (p := ⟨w.heap.size, 1, none⟩) (by simp only []; omega)).trans bp1_1
  replace bp1_2 := (z23.cell (p := ⟨w.heap.size, 2, none⟩) (by simp only []; omega)).trans bp1_2
  replace by1_0 := (z23.cell (p := ⟨w8.heap.size, 0, none⟩) (by simp only []; omega)).trans by1_0
  replace by1_1 := (z23.cell (p := ⟨w8.heap.size, 1, none⟩) (by simp only []; omega)).trans by1_1
  replace by1_2 := (z23.cell (p := ⟨w8.heap.size, 2, none⟩) (by simp only []; omega)).trans by1_2
  go_wp2_with fail
  refine (held_II _ _ (1) _ (M0.rd reads_II) (by omega) (by omega) (by omega)).mono ?_
  rintro e w' ⟨rfl, rfl⟩
  go_wp2_with fail
  go_ret
  exact ⟨rfl, hb23⟩

end Go.Proofs.Ytbkoddikfpkocaa
