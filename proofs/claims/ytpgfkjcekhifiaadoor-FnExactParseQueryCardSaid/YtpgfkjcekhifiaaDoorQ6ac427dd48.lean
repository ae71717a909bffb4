/- Texts joined for one claim: LParseQuery. -/
import Derived.Test.YtpgfkjcekhifiaaDoorQca05b091cd
import Derived.Test.YtpgfkjcekhifiaaDoorQaf28bb062f
import Derived.Test.YtpgfkjcekhifiaaDoorQa417f997d5
import Derived.Deep.RegionHeld3

/- The walk of the law ParseQuery. Written by a program. -/
namespace Go.Proofs.YtpgfkjcekhifiaaDoor
open Go.RowKit
set_option linter.unusedVariables false
set_option linter.unusedSimpArgs false
set_option synthInstance.maxSize 2000
set_option synthInstance.maxHeartbeats 400000

set_option maxHeartbeats 4000000 in
set_option maxRecDepth 100000 in
theorem walk_FnExactParseQuery (v0 : Value) (w : World) (h0 : str_in w v0) (hm : ∃ m, w.cell? ⟨0, 0, none⟩ = some (.int .i64 m)) :
    Calls Tryd.prog 3 #[v0] w fun e w' => e = .returned (.bool true) ∧ Below w.heap.size w w' := by
  obtain ⟨x0, rfl, h0⟩ := h0
  have hb0 : Below w.heap.size w w := Below.refl _ _
  rcases Nat.lt_or_ge 1048576 x0.size with g0 | g0
  · skip
    go_enter Tryd.func3, Tryd.ntmps3
    go_wp2
    go_ret
    exact ⟨rfl, Below.refl _ _⟩
  go_enter Tryd.func3, Tryd.ntmps3
  go_wp2_with fail
  refine (parQ_spec' x0 _ (by omega)).mono ?_
  rintro e w1 ⟨cW0, rfl, W0, z1⟩
  have s1 := z1.size
  have hb1 := on hb0 z1
  obtain ⟨buW0, nuW0, cuW0, rfl⟩ := oQ_form W0
  obtain ⟨w2, hw2⟩ : ∃ W, W = w1.alloc (.cells #[.int .i64 ((parQ x0).getD zeroQ).1, .slice buW0 nuW0 cuW0] 24) := ⟨_, rfl⟩
  have z2 : Below w1.heap.size w1 w2 := by rw [hw2]; exact (Below.refl _ _).alloc (Nat.le_refl _) _
  have s2 : w2.heap.size = w1.heap.size + 1 := by rw [hw2]; simp
  have hb2 := on hb1 z2
  replace W0 := W0.below z2 (by omega)
  have bW0_0 : w2.cell? ⟨w1.heap.size, 0, none⟩ = some (.int .i64 ((parQ x0).getD zeroQ).1) := by rw [hw2]; exact box_cell (Below.refl _ _) rfl
  have bW0_1 : w2.cell? ⟨w1.heap.size, 1, none⟩ = some (.slice buW0 nuW0 cuW0) := by rw [hw2]; exact box_cell (Below.refl _ _) rfl
  have raw_bW0_0 := bW0_0
  rw [hw2] at raw_bW0_0
  have raw_bW0_1 := bW0_1
  rw [hw2] at raw_bW0_1
  go_wp2_with fail
  rw [← hw2]
  clear hw2
  clear raw_bW0_0 raw_bW0_1
  refine (parQ_impl' x0 _ (by omega) (someCell hm hb2)).mono ?_
  rintro e w3 ⟨cG0, rfl, G0, z3⟩
  have s3 := z3.size
  have hb3 := on hb2 z3
  replace W0 := W0.below z3 (by omega)
  replace bW0_0 := (z3.cell (p := ⟨w1.heap.size, 0, none⟩) (by simp only []; omega)).trans bW0_0
  replace bW0_1 := (z3.cell (p := ⟨w1.heap.size, 1, none⟩) (by simp only []; omega)).trans bW0_1
  obtain ⟨buG0, nuG0, cuG0, rfl⟩ := oQ_form G0
  obtain ⟨w4, hw4⟩ : ∃ W, W = w3.alloc (.cells #[.int .i64 ((parQ x0).getD zeroQ).1, .slice buG0 nuG0 cuG0] 24) := ⟨_, rfl⟩
  have z4 : Below w3.heap.size w3 w4 := by rw [hw4]; exact (Below.refl _ _).alloc (Nat.le_refl _) _
  have s4 : w4.heap.size = w3.heap.size + 1 := by rw [hw4]; simp
  have hb4 := on hb3 z4
  replace W0 := W0.below z4 (by omega)
  replace G0 := G0.below z4 (by omega)
  replace bW0_0 := (z4.cell (p := ⟨w1.heap.size, 0, none⟩) (by simp only []; omega)).trans bW0_0
  replace bW0_1 := (z4.cell (p := ⟨w1.heap.size, 1, none⟩) (by simp only []; omega)).trans bW0_1
  have bG0_0 : w4.cell? ⟨w3.heap.size, 0, none⟩ = some (.int .i64 ((parQ x0).getD zeroQ).1) := by rw [hw4]; exact box_cell (Below.refl _ _) rfl
  have bG0_1 : w4.cell? ⟨w3.heap.size, 1, none⟩ = some (.slice buG0 nuG0 cuG0) := by rw [hw4]; exact box_cell (Below.refl _ _) rfl
  have raw_bW0_0 := bW0_0
  rw [hw4] at raw_bW0_0
  have raw_bW0_1 := bW0_1
  rw [hw4] at raw_bW0_1
  have raw_bG0_0 := bG0_0
  rw [hw4] at raw_bG0_0
  have raw_bG0_1 := bG0_1
  rw [hw4] at raw_bG0_1
  go_wp2_with fail
  rw [← hw4]
  clear hw4
  clear raw_bW0_0 raw_bW0_1 raw_bG0_0 raw_bG0_1
  refine (eq_Q _ _ _ _ _ (G0.rd reads_Q) (W0.rd reads_Q)).mono ?_
  rintro e w5 ⟨rfl, z5⟩
  have s5 := z5.size
  have hb5 := on hb4 z5
  replace W0 := W0.below z5 (by omega)
  replace G0 := G0.below z5 (by omega)
  replace bW0_0 := (z5.cell (p := ⟨w1.heap.size, 0, none⟩) (by simp only []; omega)).trans bW0_0
  replace bW0_1 := (z5.cell (p := ⟨w1.heap.size, 1, none⟩) (by simp only []; omega)).trans bW0_1
  replace bG0_0 := (z5.cell (p := ⟨w3.heap.size, 0, none⟩) (by simp only []; omega)).trans bG0_0
  replace bG0_1 := (z5.cell (p := ⟨w3.heap.size, 1, none⟩) (by simp only []; omega)).trans bG0_1
  have hrb0 := parQ_bulk x0
  go_wp2_with fail
  refine (mark_Q _ _ (1) w2.heap.size w3.heap.size _ G0 (by omega) (by omega) (by omega) (by omega)).mono ?_
  rintro e w6 ⟨rfl, M0, z6⟩
  have s6 := z6.size
  have hb6 := hb5.trans ((z6.below (by omega)).mono (by omega))
  replace W0 := W0.turn z6 (by omega)
  replace bW0_0 := (z6.cell (p := ⟨w1.heap.size, 0, none⟩) (by simp only []; omega) (by simp only []; omega)).trans bW0_0
  replace bW0_1 := (z6.cell (p := ⟨w1.heap.size, 1, none⟩) (by simp only []; omega) (by simp only []; omega)).trans bW0_1
  replace bG0_0 := (z6.cell (p := ⟨w3.heap.size, 0, none⟩) (by simp only []; omega) (by simp only []; omega)).trans bG0_0
  replace bG0_1 := (z6.cell (p := ⟨w3.heap.size, 1, none⟩) (by simp only []; omega) (by simp only []; omega)).trans bG0_1
  clear G0
  go_wp2_with fail
  refine (held_Q _ _ (1) _ (M0.rd reads_Q) (by omega) (by omega)).mono ?_
  rintro e w7 ⟨rfl, z7⟩
  have s7 := z7.size
  have hb7 := on hb6 z7
  replace W0 := W0.below z7 (by omega)
  replace M0 := M0.below z7 (by omega)
  replace bW0_0 := (z7.cell (p := ⟨w1.heap.size, 0, none⟩) (by simp only []; omega)).trans bW0_0
  replace bW0_1 := (z7.cell (p := ⟨w1.heap.size, 1, none⟩) (by simp only []; omega)).trans bW0_1
  replace bG0_0 := (z7.cell (p := ⟨w3.heap.size, 0, none⟩) (by simp only []; omega)).trans bG0_0
  replace bG0_1 := (z7.cell (p := ⟨w3.heap.size, 1, none⟩) (by simp only []; omega)).trans bG0_1
  go_wp2_with fail
  refine (parQ_impl' x0 _ (by omega) (someCell hm hb7)).mono ?_
  rintro e w8 ⟨cH0, rfl, H0, z8⟩
  have s8 := z8.size
  have hb8 := on hb7 z8
  replace W0 := W0.below z8 (by omega)
  replace M0 := M0.below z8 (by omega)
  replace bW0_0 := (z8.cell (p := ⟨w1.heap.size, 0, none⟩) (by simp only []; omega)).trans bW0_0
  replace bW0_1 := (z8.cell (p := ⟨w1.heap.size, 1, none⟩) (by simp only []; omega)).trans bW0_1
  replace bG0_0 := (z8.cell (p := ⟨w3.heap.size, 0, none⟩) (by simp only []; omega)).trans bG0_0
  replace bG0_1 := (z8.cell (p := ⟨w3.heap.size, 1, none⟩) (by simp only []; omega)).trans bG0_1
  obtain ⟨buH0, nuH0, cuH0, rfl⟩ := oQ_form H0
  obtain ⟨w9, hw9⟩ : ∃ W, W = w8.alloc (.cells #[.int .i64 ((parQ x0).getD zeroQ).1, .slice buH0 nuH0 cuH0] 24) := ⟨_, rfl⟩
  have z9 : Below w8.heap.size w8 w9 := by rw [hw9]; exact (Below.refl _ _).alloc (Nat.le_refl _) _
  have s9 : w9.heap.size = w8.heap.size + 1 := by rw [hw9]; simp
  have hb9 := on hb8 z9
  replace W0 := W0.below z9 (by omega)
  replace M0 := M0.below z9 (by omega)
  replace H0 := H0.below z9 (by omega)
  replace bW0_0 := (z9.cell (p := ⟨w1.heap.size, 0, none⟩) (by simp only []; omega)).trans bW0_0
  replace bW0_1 := (z9.cell (p := ⟨w1.heap.size, 1, none⟩) (by simp only []; omega)).trans bW0_1
  replace bG0_0 := (z9.cell (p := ⟨w3.heap.size, 0, none⟩) (by simp only []; omega)).trans bG0_0
  replace bG0_1 := (z9.cell (p := ⟨w3.heap.size, 1, none⟩) (by simp only []; omega)).trans bG0_1
  have bH0_0 : w9.cell? ⟨w8.heap.size, 0, none⟩ = some (.int .i64 ((parQ x0).getD zeroQ).1) := by rw [hw9]; exact box_cell (Below.refl _ _) rfl
  have bH0_1 : w9.cell? ⟨w8.heap.size, 1, none⟩ = some (.slice buH0 nuH0 cuH0) := by rw [hw9]; exact box_cell (Below.refl _ _) rfl
  have raw_bW0_0 := bW0_0
  rw [hw9] at raw_bW0_0
  have raw_bW0_1 := bW0_1
  rw [hw9] at raw_bW0_1
  have raw_bG0_0 := bG0_0
  rw [hw9] at raw_bG0_0
  have raw_bG0_1 := bG0_1
  rw [hw9] at raw_bG0_1
  have raw_bH0_0 := bH0_0
  rw [hw9] at raw_bH0_0
  have raw_bH0_1 := bH0_1
  rw [hw9] at raw_bH0_1
  go_wp2_with fail
  rw [← hw9]
  clear hw9
  clear raw_bW0_0 raw_bW0_1 raw_bG0_0 raw_bG0_1 raw_bH0_0 raw_bH0_1
  refine (eq_Q _ _ _ _ _ (H0.rd reads_Q) (W0.rd reads_Q)).mono ?_
  rintro e w10 ⟨rfl, z10⟩
  have s10 := z10.size
  have hb10 := on hb9 z10
  replace W0 := W0.below z10 (by omega)
  replace M0 := M0.below z10 (by omega)
  replace H0 := H0.below z10 (by omega)
  replace bW0_0 := (z10.cell (p := ⟨w1.heap.size, 0, none⟩) (by simp only []; omega)).trans bW0_0
  replace bW0_1 := (z10.cell (p := ⟨w1.heap.size, 1, none⟩) (by simp only []; omega)).trans bW0_1
  replace bG0_0 := (z10.cell (p := ⟨w3.heap.size, 0, none⟩) (by simp only []; omega)).trans bG0_0
  replace bG0_1 := (z10.cell (p := ⟨w3.heap.size, 1, none⟩) (by simp only []; omega)).trans bG0_1
  replace bH0_0 := (z10.cell (p := ⟨w8.heap.size, 0, none⟩) (by simp only []; omega)).trans bH0_0
  replace bH0_1 := (z10.cell (p := ⟨w8.heap.size, 1, none⟩) (by simp only []; omega)).trans bH0_1
  go_wp2_with fail
  refine (held_Q _ _ (1) _ (M0.rd reads_Q) (by omega) (by omega)).mono ?_
  rintro e w11 ⟨rfl, z11⟩
  have s11 := z11.size
  have hb11 := on hb10 z11
  replace W0 := W0.below z11 (by omega)
  replace M0 := M0.below z11 (by omega)
  replace H0 := H0.below z11 (by omega)
  replace bW0_0 := (z11.cell (p := ⟨w1.heap.size, 0, none⟩) (by simp only []; omega)).trans bW0_0
  replace bW0_1 := (z11.cell (p := ⟨w1.heap.size, 1, none⟩) (by simp only []; omega)).trans bW0_1
  replace bG0_0 := (z11.cell (p := ⟨w3.heap.size, 0, none⟩) (by simp only []; omega)).trans bG0_0
  replace bG0_1 := (z11.cell (p := ⟨w3.heap.size, 1, none⟩) (by simp only []; omega)).trans bG0_1
  replace bH0_0 := (z11.cell (p := ⟨w8.heap.size, 0, none⟩) (by simp only []; omega)).trans bH0_0
  replace bH0_1 := (z11.cell (p := ⟨w8.heap.size, 1, none⟩) (by simp only []; omega)).trans bH0_1
  go_wp2_with fail
  go_ret
  exact ⟨rfl, hb11⟩

end Go.Proofs.YtpgfkjcekhifiaaDoor
