/- The walk of the law on the columns of an atom. Written by a program. -/
import Derived.Test.YtnemkajkidgfjaaAtomCols
import Derived.Test.YtnemkajkidgfjaaOpenK
import Derived.Deep.RegionHeld3
namespace Go.Proofs.Ytnemkajkidgfjaa
open Go.RowKit
set_option linter.unusedVariables false
set_option linter.unusedSimpArgs false

theorem atomCols_cnt (x : DAtom) (vs : List Int) : cnt_I (atomCols x vs) ≤ bulk_A x := by
  have := colsOf_len vs x.2 x.2.length
  unfold cnt_I atomCols bulk_A bulk_I
  omega

set_option maxHeartbeats 4000000 in
set_option maxRecDepth 100000 in
theorem walk_FnExactAtomColumns (v0 : Value) (v1 : Value) (w : World) (h0 : kA_in w v0) (h1 : kI_in w v1) :
    Calls Try.prog 14 #[v0, v1] w fun e w' => e = .returned (.bool true) ∧ Below w.heap.size w w' := by
  obtain ⟨c0, x0, rfl, h0⟩ := h0
  obtain ⟨bu0, nu0, cu0, rfl⟩ := rA_form h0
  obtain ⟨a1, n1, p1, x1, rfl, hn1, h1⟩ := h1
  have hb0 : Below w.heap.size w w := Below.refl _ _
  rcases Nat.lt_or_ge 1048576 n1 with g1 | g1
  · have hm1 := hn1.2
    go_enter Try.func14, Try.ntmps14
    go_wp2
    go_ret
    exact ⟨rfl, (Below.refl _ _).alloc (Nat.le_refl _) _⟩
  have hbk1 : bulk_I x1 ≤ 1048576 := by have h9 := hn1.1; unfold bulk_I; omega
  go_enter Try.func14, Try.ntmps14
  obtain ⟨w1, hw1⟩ : ∃ W, W = w.alloc (.cells #[.string x0.1, .slice bu0 nu0 cu0] 40) := ⟨_, rfl⟩
  have z1 : Below w.heap.size w w1 := by rw [hw1]; exact (Below.refl _ _).alloc (Nat.le_refl _) _
  have s1 : w1.heap.size = w.heap.size + 1 := by rw [hw1]; simp
  have hb1 := on hb0 z1
  have bp0_0 : w1.cell? ⟨w.heap.size, 0, none⟩ = some (.string x0.1) := by rw [hw1]; exact box_cell (Below.refl _ _) rfl
  have bp0_1 : w1.cell? ⟨w.heap.size, 1, none⟩ = some (.slice bu0 nu0 cu0) := by rw [hw1]; exact box_cell (Below.refl _ _) rfl
  go_wp2_with fail
  rw [← hw1]
  clear hw1
  refine (sz_A _ x0 (1048576) _ (rA.mono h0 hb1) (by omega) (by omega)).mono ?_
  rintro e w2 ⟨rfl, z2⟩
  have s2 := z2.size
  have hb2 := on hb1 z2
  replace bp0_0 := (z2.cell (p := ⟨w.heap.size, 0, none⟩) (by simp only []; omega)).trans bp0_0
  replace bp0_1 := (z2.cell (p := ⟨w.heap.size, 1, none⟩) (by simp only []; omega)).trans bp0_1
  obtain ⟨q0, hq0⟩ : ∃ q, q = szR (1048576) (bulk_A x0) := ⟨_, rfl⟩
  rw [← hq0]
  have hc0 := szR_cases (1048576) (bulk_A x0)
  rw [← hq0] at hc0
  clear hq0
  rcases hc0 with ⟨rfl, _⟩ | ⟨hq0, hbk0⟩
  · go_wp2_with fail
    go_ret
    exact ⟨rfl, hb2⟩
  have hlo0 : 0 ≤ q0 ∧ q0 ≤ 1048576 := by omega
  have hbl0 : bulk_A x0 ≤ 1048576 := by omega
  obtain ⟨hlo0, hlp0⟩ := hlo0
  have HQ0 := Lib.hid hq0
  clear hq0 hbk0
  go_wp2_with fail
  refine (to_A _ _ _ (rA.mono h0 hb2) (by omega)).mono ?_
  rintro e w3 ⟨ct0, rfl, t0, z3⟩
  have s3 := z3.size
  have hb3 := on hb2 z3
  replace bp0_0 := (z3.cell (p := ⟨w.heap.size, 0, none⟩) (by simp only []; omega)).trans bp0_0
  replace bp0_1 := (z3.cell (p := ⟨w.heap.size, 1, none⟩) (by simp only []; omega)).trans bp0_1
  obtain ⟨but0, nut0, cut0, rfl⟩ := oA_form t0
  go_wp2_with fail
  refine (to_I _ _ _ (rI.mono h1 hb3) (by omega)).mono ?_
  rintro e w4 ⟨ct1, rfl, t1, z4⟩
  have s4 := z4.size
  have hb4 := on hb3 z4
  replace t0 := t0.below z4 (by omega)
  replace bp0_0 := (z4.cell (p := ⟨w.heap.size, 0, none⟩) (by simp only []; omega)).trans bp0_0
  replace bp0_1 := (z4.cell (p := ⟨w.heap.size, 1, none⟩) (by simp only []; omega)).trans bp0_1
  go_wp2_with fail
  refine (atomCols_spec' _ _ x0 x1 _ (t0.rd reads_A) (t1.rd reads_I) (by omega)).mono ?_
  rintro e w5 ⟨cW0, rfl, W0, z5⟩
  have s5 := z5.size
  have hb5 := on hb4 z5
  replace t0 := t0.below z5 (by omega)
  replace t1 := t1.below z5 (by omega)
  replace bp0_0 := (z5.cell (p := ⟨w.heap.size, 0, none⟩) (by simp only []; omega)).trans bp0_0
  replace bp0_1 := (z5.cell (p := ⟨w.heap.size, 1, none⟩) (by simp only []; omega)).trans bp0_1
  clear t0
  clear t1
  go_wp2_with fail
  refine (to_A _ _ _ (rA.mono h0 hb5) (by omega)).mono ?_
  rintro e w6 ⟨cy0, rfl, y0, z6⟩
  have s6 := z6.size
  have hb6 := on hb5 z6
  replace W0 := W0.below z6 (by omega)
  replace bp0_0 := (z6.cell (p := ⟨w.heap.size, 0, none⟩) (by simp only []; omega)).trans bp0_0
  replace bp0_1 := (z6.cell (p := ⟨w.heap.size, 1, none⟩) (by simp only []; omega)).trans bp0_1
  obtain ⟨buy0, nuy0, cuy0, rfl⟩ := oA_form y0
  obtain ⟨w7, hw7⟩ : ∃ W, W = w6.alloc (.cells #[.string x0.1, .slice buy0 nuy0 cuy0] 43) := ⟨_, rfl⟩
  have z7 : Below w6.heap.size w6 w7 := by rw [hw7]; exact (Below.refl _ _).alloc (Nat.le_refl _) _
  have s7 : w7.heap.size = w6.heap.size + 1 := by rw [hw7]; simp
  have hb7 := on hb6 z7
  replace W0 := W0.below z7 (by omega)
  replace y0 := y0.below z7 (by omega)
  replace bp0_0 := (z7.cell (p := ⟨w.heap.size, 0, none⟩) (by simp only []; omega)).trans bp0_0
  replace bp0_1 := (z7.cell (p := ⟨w.heap.size, 1, none⟩) (by simp only []; omega)).trans bp0_1
  have by0_0 : w7.cell? ⟨w6.heap.size, 0, none⟩ = some (.string x0.1) := by rw [hw7]; exact box_cell (Below.refl _ _) rfl
  have by0_1 : w7.cell? ⟨w6.heap.size, 1, none⟩ = some (.slice buy0 nuy0 cuy0) := by rw [hw7]; exact box_cell (Below.refl _ _) rfl
  go_wp2_with fail
  rw [← hw7]
  clear hw7
  refine (to_I _ _ _ (rI.mono h1 hb7) (by omega)).mono ?_
  rintro e w8 ⟨cy1, rfl, y1, z8⟩
  have s8 := z8.size
  have hb8 := on hb7 z8
  replace W0 := W0.below z8 (by omega)
  replace y0 := y0.below z8 (by omega)
  replace bp0_0 := (z8.cell (p := ⟨w.heap.size, 0, none⟩) (by simp only []; omega)).trans bp0_0
  replace bp0_1 := (z8.cell (p := ⟨w.heap.size, 1, none⟩) (by simp only []; omega)).trans bp0_1
  replace by0_0 := (z8.cell (p := ⟨w6.heap.size, 0, none⟩) (by simp only []; omega)).trans by0_0
  replace by0_1 := (z8.cell (p := ⟨w6.heap.size, 1, none⟩) (by simp only []; omega)).trans by0_1
  go_wp2_with fail
  refine (atomCols_impl' _ _ x0 x1 _ (y0.rd reads_A) (y1.rd reads_I) (by omega)).mono ?_
  rintro e w9 ⟨cG0, rfl, G0, z9⟩
  have s9 := z9.size
  have hb9 := on hb8 z9
  replace W0 := W0.below z9 (by omega)
  replace y0 := y0.below z9 (by omega)
  replace y1 := y1.below z9 (by omega)
  replace bp0_0 := (z9.cell (p := ⟨w.heap.size, 0, none⟩) (by simp only []; omega)).trans bp0_0
  replace bp0_1 := (z9.cell (p := ⟨w.heap.size, 1, none⟩) (by simp only []; omega)).trans bp0_1
  replace by0_0 := (z9.cell (p := ⟨w6.heap.size, 0, none⟩) (by simp only []; omega)).trans by0_0
  replace by0_1 := (z9.cell (p := ⟨w6.heap.size, 1, none⟩) (by simp only []; omega)).trans by0_1
  go_wp2_with fail
  refine (eq_I _ _ _ _ _ (G0.rd reads_I) (W0.rd reads_I)).mono ?_
  rintro e w10 ⟨rfl, z10⟩
  replace z10 : Below w9.heap.size w9 w10 := z10.below _
  have s10 := z10.size
  have hb10 := on hb9 z10
  replace W0 := W0.below z10 (by omega)
  replace y0 := y0.below z10 (by omega)
  replace y1 := y1.below z10 (by omega)
  replace G0 := G0.below z10 (by omega)
  replace bp0_0 := (z10.cell (p := ⟨w.heap.size, 0, none⟩) (by simp only []; omega)).trans bp0_0
  replace bp0_1 := (z10.cell (p := ⟨w.heap.size, 1, none⟩) (by simp only []; omega)).trans bp0_1
  replace by0_0 := (z10.cell (p := ⟨w6.heap.size, 0, none⟩) (by simp only []; omega)).trans by0_0
  replace by0_1 := (z10.cell (p := ⟨w6.heap.size, 1, none⟩) (by simp only []; omega)).trans by0_1
  go_wp2_with fail
  go_region_held3 (fun W => W.cell? ⟨w6.heap.size, 0, none⟩ = some (.string x0.1) ∧ W.cell? ⟨w6.heap.size, 1, none⟩ = some (.slice buy0 nuy0 cuy0) ∧ W.cell? ⟨w.heap.size, 0, none⟩ = some (.string x0.1) ∧ W.cell? ⟨w.heap.size, 1, none⟩ = some (.slice bu0 nu0 cu0)) (first | exact ⟨by0_0, by0_1, bp0_0, bp0_1⟩ | assumption) (first | (go_at_call 46; refine (to_A _ x0 _ (rA.mono h0 hb10.drew) (by omega)).mono ?_; rintro e w11 ⟨du0, rfl, u0, z11⟩; replace z11 : Below w10.heap.size w10 w11 := (Below.refl _ _).drew.trans z11; have hS0 := (⟨(z11.cell (p := ⟨w6.heap.size, 0, none⟩) (by simp only []; omega)).trans by0_0, (z11.cell (p := ⟨w6.heap.size, 1, none⟩) (by simp only []; omega)).trans by0_1, (z11.cell (p := ⟨w.heap.size, 0, none⟩) (by simp only []; omega)).trans bp0_0, (z11.cell (p := ⟨w.heap.size, 1, none⟩) (by simp only []; omega)).trans bp0_1⟩ : (fun W => W.cell? ⟨w6.heap.size, 0, none⟩ = some (.string x0.1) ∧ W.cell? ⟨w6.heap.size, 1, none⟩ = some (.slice buy0 nuy0 cuy0) ∧ W.cell? ⟨w.heap.size, 0, none⟩ = some (.string x0.1) ∧ W.cell? ⟨w.heap.size, 1, none⟩ = some (.slice bu0 nu0 cu0)) w11); obtain ⟨buu0, nuu0, cuu0, rfl⟩ := oA_form u0; have y0' := y0.below z11 (by omega)) | (go_at_call 48; refine (eq_A _ _ x0 x0 _ (y0'.rd reads_A) (u0.rd reads_A)).mono ?_; rintro e w12 ⟨rfl, z12⟩; have s11 := z11.size; have hT0 := (⟨(z12.cell (p := ⟨w6.heap.size, 0, none⟩) (by simp only []; omega)).trans hS0.1, (z12.cell (p := ⟨w6.heap.size, 1, none⟩) (by simp only []; omega)).trans hS0.2.1, (z12.cell (p := ⟨w.heap.size, 0, none⟩) (by simp only []; omega)).trans hS0.2.2.1, (z12.cell (p := ⟨w.heap.size, 1, none⟩) (by simp only []; omega)).trans hS0.2.2.2⟩ : (fun W => W.cell? ⟨w6.heap.size, 0, none⟩ = some (.string x0.1) ∧ W.cell? ⟨w6.heap.size, 1, none⟩ = some (.slice buy0 nuy0 cuy0) ∧ W.cell? ⟨w.heap.size, 0, none⟩ = some (.string x0.1) ∧ W.cell? ⟨w.heap.size, 1, none⟩ = some (.slice bu0 nu0 cu0)) w12)))
  replace z11 : Below w10.heap.size w10 w11 := z11
  clear u0 y0' hS0 hT0
  have t11 := z11.size
  have hb11 := on hb10 z11
  replace W0 := W0.below z11 (by omega)
  replace y0 := y0.below z11 (by omega)
  replace y1 := y1.below z11 (by omega)
  replace G0 := G0.below z11 (by omega)
  replace bp0_0 := (z11.cell (p := ⟨w.heap.size, 0, none⟩) (by simp only []; omega)).trans bp0_0
  replace bp0_1 := (z11.cell (p := ⟨w.heap.size, 1, none⟩) (by simp only []; omega)).trans bp0_1
  replace by0_0 := (z11.cell (p := ⟨w6.heap.size, 0, none⟩) (by simp only []; omega)).trans by0_0
  replace by0_1 := (z11.cell (p := ⟨w6.heap.size, 1, none⟩) (by simp only []; omega)).trans by0_1
  have t12 := z12.size
  have hb12 := on hb11 z12
  replace W0 := W0.below z12 (by omega)
  replace y0 := y0.below z12 (by omega)
  replace y1 := y1.below z12 (by omega)
  replace G0 := G0.below z12 (by omega)
  replace bp0_0 := (z12.cell (p := ⟨w.heap.size, 0, none⟩) (by simp only []; omega)).trans bp0_0
  replace bp0_1 := (z12.cell (p := ⟨w.heap.size, 1, none⟩) (by simp only []; omega)).trans bp0_1
  replace by0_0 := (z12.cell (p := ⟨w6.heap.size, 0, none⟩) (by simp only []; omega)).trans by0_0
  replace by0_1 := (z12.cell (p := ⟨w6.heap.size, 1, none⟩) (by simp only []; omega)).trans by0_1
  go_wp2_with fail
  refine (to_I _ _ _ (rI.mono h1 hb12) (by omega)).mono ?_
  rintro e w13 ⟨cu1, rfl, u1, z13⟩
  have s13 := z13.size
  have hb13 := on hb12 z13
  replace W0 := W0.below z13 (by omega)
  replace y0 := y0.below z13 (by omega)
  replace y1 := y1.below z13 (by omega)
  replace G0 := G0.below z13 (by omega)
  replace bp0_0 := (z13.cell (p := ⟨w.heap.size, 0, none⟩) (by simp only []; omega)).trans bp0_0
  replace bp0_1 := (z13.cell (p := ⟨w.heap.size, 1, none⟩) (by simp only []; omega)).trans bp0_1
  replace by0_0 := (z13.cell (p := ⟨w6.heap.size, 0, none⟩) (by simp only []; omega)).trans by0_0
  replace by0_1 := (z13.cell (p := ⟨w6.heap.size, 1, none⟩) (by simp only []; omega)).trans by0_1
  go_wp2_with fail
  refine (eq_I _ _ _ _ _ (y1.rd reads_I) (u1.rd reads_I)).mono ?_
  rintro e w14 ⟨rfl, z14⟩
  replace z14 : Below w13.heap.size w13 w14 := z14.below _
  have s14 := z14.size
  have hb14 := on hb13 z14
  replace W0 := W0.below z14 (by omega)
  replace y0 := y0.below z14 (by omega)
  replace y1 := y1.below z14 (by omega)
  replace G0 := G0.below z14 (by omega)
  replace u1 := u1.below z14 (by omega)
  replace bp0_0 := (z14.cell (p := ⟨w.heap.size, 0, none⟩) (by simp only []; omega)).trans bp0_0
  replace bp0_1 := (z14.cell (p := ⟨w.heap.size, 1, none⟩) (by simp only []; omega)).trans bp0_1
  replace by0_0 := (z14.cell (p := ⟨w6.heap.size, 0, none⟩) (by simp only []; omega)).trans by0_0
  replace by0_1 := (z14.cell (p := ⟨w6.heap.size, 1, none⟩) (by simp only []; omega)).trans by0_1
  clear u1
  have hct0 := cnt_le_A x0
  have hct1 := cnt_le_I x1
  go_wp2_with fail
  refine (mark_A _ x0 (1) w5.heap.size w6.heap.size _ y0 (by omega) (by omega) (by omega)).mono ?_
  rintro e w15 ⟨rfl, y0m, z15⟩
  have s15 := z15.size
  have hb15 := hb14.trans ((z15.below (by omega)).mono (by omega))
  replace W0 := W0.turn z15 (by omega)
  replace y1 := y1.turn z15 (by omega)
  replace G0 := G0.turn z15 (by omega)
  replace bp0_0 := (z15.cell (p := ⟨w.heap.size, 0, none⟩) (by simp only []; omega) (by simp only []; omega)).trans bp0_0
  replace bp0_1 := (z15.cell (p := ⟨w.heap.size, 1, none⟩) (by simp only []; omega) (by simp only []; omega)).trans bp0_1
  replace by0_0 := (z15.cell (p := ⟨w6.heap.size, 0, none⟩) (by simp only []; omega) (by simp only []; omega)).trans by0_0
  replace by0_1 := (z15.cell (p := ⟨w6.heap.size, 1, none⟩) (by simp only []; omega) (by simp only []; omega)).trans by0_1
  clear y0
  clear y0m
  go_wp2_with fail
  refine (mark_I _ x1 (1 + (cnt_A x0 : Int)) w7.heap.size w8.heap.size _ y1 (by omega) (by omega) (by omega)).mono ?_
  rintro e w16 ⟨rfl, y1m, z16⟩
  have s16 := z16.size
  have hb16 := hb15.trans ((z16.below (by omega)).mono (by omega))
  replace W0 := W0.turn z16 (by omega)
  replace G0 := G0.turn z16 (by omega)
  replace bp0_0 := (z16.cell (p := ⟨w.heap.size, 0, none⟩) (by simp only []; omega) (by simp only []; omega)).trans bp0_0
  replace bp0_1 := (z16.cell (p := ⟨w.heap.size, 1, none⟩) (by simp only []; omega) (by simp only []; omega)).trans bp0_1
  replace by0_0 := (z16.cell (p := ⟨w6.heap.size, 0, none⟩) (by simp only []; omega) (by simp only []; omega)).trans by0_0
  replace by0_1 := (z16.cell (p := ⟨w6.heap.size, 1, none⟩) (by simp only []; omega) (by simp only []; omega)).trans by0_1
  clear y1
  clear y1m
  go_wp2_with fail
  refine (eq_I _ _ _ _ _ (G0.rd reads_I) (W0.rd reads_I)).mono ?_
  rintro e w17 ⟨rfl, z17⟩
  replace z17 : Below w16.heap.size w16 w17 := z17.below _
  have s17 := z17.size
  have hb17 := on hb16 z17
  replace W0 := W0.below z17 (by omega)
  replace G0 := G0.below z17 (by omega)
  replace bp0_0 := (z17.cell (p := ⟨w.heap.size, 0, none⟩) (by simp only []; omega)).trans bp0_0
  replace bp0_1 := (z17.cell (p := ⟨w.heap.size, 1, none⟩) (by simp only []; omega)).trans bp0_1
  replace by0_0 := (z17.cell (p := ⟨w6.heap.size, 0, none⟩) (by simp only []; omega)).trans by0_0
  replace by0_1 := (z17.cell (p := ⟨w6.heap.size, 1, none⟩) (by simp only []; omega)).trans by0_1
  have hrb0 := atomCols_cnt x0 x1
  go_wp2_with fail
  refine (mark_I _ _ (1) w8.heap.size w9.heap.size _ G0 (by omega) (by omega) (by omega)).mono ?_
  rintro e w18 ⟨rfl, M0, z18⟩
  have s18 := z18.size
  have hb18 := hb17.trans ((z18.below (by omega)).mono (by omega))
  replace W0 := W0.turn z18 (by omega)
  replace bp0_0 := (z18.cell (p := ⟨w.heap.size, 0, none⟩) (by simp only []; omega) (by simp only []; omega)).trans bp0_0
  replace bp0_1 := (z18.cell (p := ⟨w.heap.size, 1, none⟩) (by simp only []; omega) (by simp only []; omega)).trans bp0_1
  replace by0_0 := (z18.cell (p := ⟨w6.heap.size, 0, none⟩) (by simp only []; omega) (by simp only []; omega)).trans by0_0
  replace by0_1 := (z18.cell (p := ⟨w6.heap.size, 1, none⟩) (by simp only []; omega) (by simp only []; omega)).trans by0_1
  clear G0
  go_wp2_with fail
  refine (held_I _ _ (1) _ (M0.rd reads_I) (by omega) (by omega)).mono ?_
  rintro e w' ⟨rfl, rfl⟩
  go_wp2_with fail
  refine (to_A _ _ _ (rA.mono h0 hb18) (by omega)).mono ?_
  rintro e w19 ⟨cp0, rfl, p0, z19⟩
  have s19 := z19.size
  have hb19 := on hb18 z19
  replace W0 := W0.below z19 (by omega)
  replace M0 := M0.below z19 (by omega)
  replace bp0_0 := (z19.cell (p := ⟨w.heap.size, 0, none⟩) (by simp only []; omega)).trans bp0_0
  replace bp0_1 := (z19.cell (p := ⟨w.heap.size, 1, none⟩) (by simp only []; omega)).trans bp0_1
  replace by0_0 := (z19.cell (p := ⟨w6.heap.size, 0, none⟩) (by simp only []; omega)).trans by0_0
  replace by0_1 := (z19.cell (p := ⟨w6.heap.size, 1, none⟩) (by simp only []; omega)).trans by0_1
  obtain ⟨bup0, nup0, cup0, rfl⟩ := oA_form p0
  go_wp2_with fail
  refine (to_I _ _ _ (rI.mono h1 hb19) (by omega)).mono ?_
  rintro e w20 ⟨cp1, rfl, p1, z20⟩
  have s20 := z20.size
  have hb20 := on hb19 z20
  replace W0 := W0.below z20 (by omega)
  replace M0 := M0.below z20 (by omega)
  replace p0 := p0.below z20 (by omega)
  replace bp0_0 := (z20.cell (p := ⟨w.heap.size, 0, none⟩) (by simp only []; omega)).trans bp0_0
  replace bp0_1 := (z20.cell (p := ⟨w.heap.size, 1, none⟩) (by simp only []; omega)).trans bp0_1
  replace by0_0 := (z20.cell (p := ⟨w6.heap.size, 0, none⟩) (by simp only []; omega)).trans by0_0
  replace by0_1 := (z20.cell (p := ⟨w6.heap.size, 1, none⟩) (by simp only []; omega)).trans by0_1
  go_wp2_with fail
  refine (atomCols_impl' _ _ x0 x1 _ (p0.rd reads_A) (p1.rd reads_I) (by omega)).mono ?_
  rintro e w21 ⟨cH0, rfl, H0, z21⟩
  have s21 := z21.size
  have hb21 := on hb20 z21
  replace W0 := W0.below z21 (by omega)
  replace M0 := M0.below z21 (by omega)
  replace p0 := p0.below z21 (by omega)
  replace p1 := p1.below z21 (by omega)
  replace bp0_0 := (z21.cell (p := ⟨w.heap.size, 0, none⟩) (by simp only []; omega)).trans bp0_0
  replace bp0_1 := (z21.cell (p := ⟨w.heap.size, 1, none⟩) (by simp only []; omega)).trans bp0_1
  replace by0_0 := (z21.cell (p := ⟨w6.heap.size, 0, none⟩) (by simp only []; omega)).trans by0_0
  replace by0_1 := (z21.cell (p := ⟨w6.heap.size, 1, none⟩) (by simp only []; omega)).trans by0_1
  go_wp2_with fail
  refine (eq_I _ _ _ _ _ (H0.rd reads_I) (W0.rd reads_I)).mono ?_
  rintro e w22 ⟨rfl, z22⟩
  replace z22 : Below w21.heap.size w21 w22 := z22.below _
  have s22 := z22.size
  have hb22 := on hb21 z22
  replace W0 := W0.below z22 (by omega)
  replace M0 := M0.below z22 (by omega)
  replace p0 := p0.below z22 (by omega)
  replace p1 := p1.below z22 (by omega)
  replace H0 := H0.below z22 (by omega)
  replace bp0_0 := (z22.cell (p := ⟨w.heap.size, 0, none⟩) (by simp only []; omega)).trans bp0_0
  replace bp0_1 := (z22.cell (p := ⟨w.heap.size, 1, none⟩) (by simp only []; omega)).trans bp0_1
  replace by0_0 := (z22.cell (p := ⟨w6.heap.size, 0, none⟩) (by simp only []; omega)).trans by0_0
  replace by0_1 := (z22.cell (p := ⟨w6.heap.size, 1, none⟩) (by simp only []; omega)).trans by0_1
  go_wp2_with fail
  refine (held_I _ _ (1) _ (M0.rd reads_I) (by omega) (by omega)).mono ?_
  rintro e w' ⟨rfl, rfl⟩
  go_wp2_with fail
  go_ret
  exact ⟨rfl, hb22⟩

end Go.Proofs.Ytnemkajkidgfjaa
