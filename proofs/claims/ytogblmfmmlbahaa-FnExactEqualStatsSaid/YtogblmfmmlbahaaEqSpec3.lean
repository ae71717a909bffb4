/- Contracts: statistics compared by the reference. -/
import Derived.Test.YtogblmfmmlbahaaKTs
import Derived.Test.YtogblmfmmlbahaaCmp
namespace Go.Proofs.Ytogblmfmmlbahaa
open Go.RowKit
set_option linter.unusedVariables false
set_option linter.unusedSimpArgs false
set_option synthInstance.maxSize 2000
set_option synthInstance.maxHeartbeats 400000

theorem cmp_K (u v : Value) (xs ys : List Int) (w : World) (h : rI.rep w [u] xs) (h' : rI.rep w [v] ys) :
    Calls Try.prog 61 #[u, v] w fun e w' => e = .returned (.int .i64 (cmpRows xs ys)) ∧ Below w.heap.size w w' := by
  obtain ⟨a, cap, rfl, _, _, hi⟩ := rI_open h
  obtain ⟨a', cap', rfl, _, _, hi'⟩ := rI_open h'
  exact (cmp_spec _ _ _ _ _ _ _ _ _ hi hi').mono fun e w' ⟨h1, h2⟩ => ⟨h1, h2.below _⟩

set_option maxHeartbeats 4000000 in
theorem equalTs_spec (cs ds : List Value) (x y : DTs) (w : World) (h : rTs.rep w cs x) (h' : rTs.rep w ds y) :
    Calls Try.prog 36 #[.agg cs.toArray, .agg ds.toArray] w fun e w' => e = .returned (.bool (decide (x = y))) ∧ Below w.heap.size w w' := by
  obtain ⟨ub3, un3, uc3, rfl, g0, g1, g2, g3⟩ := rTs_open h
  obtain ⟨vb3, vn3, vc3, rfl, k0, k1, k2, k3⟩ := rTs_open h'
  clear h h'
  have hb0 : Below w.heap.size w w := Below.refl _ _
  go_enter Try.func36, Try.ntmps36
  obtain ⟨w1, hw1⟩ : ∃ W, W = w.alloc (.cells #[.string x.1, .int .i64 x.2.1, .int .i64 x.2.2.1, .slice ub3 un3 uc3] 56) := ⟨_, rfl⟩
  have z1 : Below w.heap.size w w1 := by rw [hw1]; exact (Below.refl _ _).alloc (Nat.le_refl _) _
  have s1 : w1.heap.size = w.heap.size + 1 := by rw [hw1]; simp
  have hb1 := on hb0 z1
  have c_0 : w1.cell? ⟨w.heap.size, 0, none⟩ = some (.string x.1) := by rw [hw1]; exact box_cell (Below.refl _ _) rfl
  have c_1 : w1.cell? ⟨w.heap.size, 1, none⟩ = some (.int .i64 x.2.1) := by rw [hw1]; exact box_cell (Below.refl _ _) rfl
  have c_2 : w1.cell? ⟨w.heap.size, 2, none⟩ = some (.int .i64 x.2.2.1) := by rw [hw1]; exact box_cell (Below.refl _ _) rfl
  have c_3 : w1.cell? ⟨w.heap.size, 3, none⟩ = some (.slice ub3 un3 uc3) := by rw [hw1]; exact box_cell (Below.refl _ _) rfl
  have raw1_c_0 := c_0
  have raw1_c_1 := c_1
  have raw1_c_2 := c_2
  have raw1_c_3 := c_3
  rw [hw1] at raw1_c_0 raw1_c_1 raw1_c_2 raw1_c_3
  obtain ⟨w2, hw2⟩ : ∃ W, W = w1.alloc (.cells #[.string y.1, .int .i64 y.2.1, .int .i64 y.2.2.1, .slice vb3 vn3 vc3] 56) := ⟨_, rfl⟩
  have z2 : Below w1.heap.size w1 w2 := by rw [hw2]; exact (Below.refl _ _).alloc (Nat.le_refl _) _
  have s2 : w2.heap.size = w1.heap.size + 1 := by rw [hw2]; simp
  have hb2 := on hb1 z2
  replace c_0 := (z2.cell (p := ⟨w.heap.size, 0, none⟩) (by simp only []; omega)).trans c_0
  replace c_1 := (z2.cell (p := ⟨w.heap.size, 1, none⟩) (by simp only []; omega)).trans c_1
  replace c_2 := (z2.cell (p := ⟨w.heap.size, 2, none⟩) (by simp only []; omega)).trans c_2
  replace c_3 := (z2.cell (p := ⟨w.heap.size, 3, none⟩) (by simp only []; omega)).trans c_3
  have e2 : w1.heap.size = w.heap.size + 1 := by omega
  have d_0 : w2.cell? ⟨w1.heap.size, 0, none⟩ = some (.string y.1) := by rw [hw2]; exact box_cell (Below.refl _ _) rfl
  have d_1 : w2.cell? ⟨w1.heap.size, 1, none⟩ = some (.int .i64 y.2.1) := by rw [hw2]; exact box_cell (Below.refl _ _) rfl
  have d_2 : w2.cell? ⟨w1.heap.size, 2, none⟩ = some (.int .i64 y.2.2.1) := by rw [hw2]; exact box_cell (Below.refl _ _) rfl
  have d_3 : w2.cell? ⟨w1.heap.size, 3, none⟩ = some (.slice vb3 vn3 vc3) := by rw [hw2]; exact box_cell (Below.refl _ _) rfl
  rw [e2] at d_0 d_1 d_2 d_3
  have raw2_c_0 := c_0
  have raw2_c_1 := c_1
  have raw2_c_2 := c_2
  have raw2_c_3 := c_3
  have raw2_d_0 := d_0
  have raw2_d_1 := d_1
  have raw2_d_2 := d_2
  have raw2_d_3 := d_3
  rw [hw2, hw1] at raw2_c_0 raw2_c_1 raw2_c_2 raw2_c_3 raw2_d_0 raw2_d_1 raw2_d_2 raw2_d_3
  have t0 := rS_sl g3
  have t1 := rS_sl k3
  have hl := t0.len
  have hl' := t1.len
  have hn := t0.small
  have hn' := t1.small
  clear g0 g1 g2 k0 k1 k2 t0 t1
  by_cases e0 : x.1 = y.1
  case neg =>
    have HE := Lib.hid (show decide (x = y) = false by simp only [decide_eq_false_iff_not]; intro e; exact e0 (by rw [e]))
    have hne := bytes_ne e0
    clear e0 hl hl'
    go_wp2_with fail
    go_ret
    exact ⟨ret_bool HE.out.symm, by first | exact hb2 | (rw [hw2, hw1] at hb2; exact hb2)⟩
  have q0 : (x.1.toList == y.1.toList) = true := by rw [e0]; simp
  have E0 := Lib.hid e0
  clear e0
  by_cases e1 : x.2.1 = y.2.1
  case neg =>
    have HE := Lib.hid (show decide (x = y) = false by simp only [decide_eq_false_iff_not]; intro e; exact e1 (by rw [e]))
    have hne := bne_iff_ne.2 e1
    clear e1 hl hl'
    go_wp2_with fail
    go_ret
    exact ⟨ret_bool HE.out.symm, by first | exact hb2 | (rw [hw2, hw1] at hb2; exact hb2)⟩
  have q1 : (x.2.1 != y.2.1) = false := by rw [e1]; simp
  have E1 := Lib.hid e1
  clear e1
  by_cases e2 : x.2.2.1 = y.2.2.1
  case neg =>
    have HE := Lib.hid (show decide (x = y) = false by simp only [decide_eq_false_iff_not]; intro e; exact e2 (by rw [e]))
    have hne := bne_iff_ne.2 e2
    clear e2 hl hl'
    go_wp2_with fail
    go_ret
    exact ⟨ret_bool HE.out.symm, by first | exact hb2 | (rw [hw2, hw1] at hb2; exact hb2)⟩
  have q2 : (x.2.2.1 != y.2.2.1) = false := by rw [e2]; simp
  have E2 := Lib.hid e2
  clear e2
  by_cases hnm : un3 = vn3
  case neg =>
    have HE := Lib.hid (show decide (x = y) = false by
      simp only [decide_eq_false_iff_not]; rintro rfl; omega)
    have hne : ((un3 : Int) != (vn3 : Int)) = true := by rw [bne_iff_ne]; omega
    clear hl hl'
    go_wp2_with fail
    go_ret
    exact ⟨ret_bool HE.out.symm, by first | exact hb2 | (rw [hw2, hw1] at hb2; exact hb2)⟩
  subst hnm
  go_wp2_with fail
  rw [← hw1]
  rw [← hw2]
  clear hw2 hw1
  clear raw1_c_0 raw1_c_1 raw1_c_2 raw1_c_3 raw2_c_0 raw2_c_1 raw2_c_2 raw2_c_3 raw2_d_0 raw2_d_1 raw2_d_2 raw2_d_3
  clear q0 q1 q2
  have HX : Hid (x.2.2.2 = y.2.2.2 → decide (x = y) = true) := fun e => by
    simp only [decide_eq_true_eq]; exact Prod.ext E0.out (Prod.ext E1.out (Prod.ext E2.out e))
  have HY : Hid (x.2.2.2 ≠ y.2.2.2 → decide (x = y) = false) := fun e => by
    simp only [decide_eq_false_iff_not]; intro e'; exact e (by rw [e'])
  clear E0 E1 E2
  obtain ⟨xs, hxs⟩ : ∃ l, x.2.2.2 = l := ⟨_, rfl⟩
  obtain ⟨ys, hys⟩ : ∃ l, y.2.2.2 = l := ⟨_, rfl⟩
  rw [hxs] at HX HY g3 hl
  rw [hys] at HX HY k3 hl'
  clear hxs hys
  go_loopw [5, 6, 7, 8] (fun i _ _ _ wr => ∃ j : Nat, j ≤ un3 ∧ i = .int .i64 j ∧ Hid (xs.take j = ys.take j) ∧ Below w2.heap.size w2 wr) (fun i _ _ _ _ => un3 - (intOf i).toNat)
  case atStart => exact ⟨0, Nat.zero_le _, rfl, rfl, Below.refl _ _⟩
  case round =>
    obtain ⟨j, hj, rfl, hE, hdr⟩ := hrel
    obtain ⟨wo, rfl⟩ : ∃ W, W = wr := ⟨_, rfl⟩
    have hlc := hdr
    have s3 := hdr.size
    have hb3 := on hb2 hdr
    replace c_0 := (hdr.cell (p := ⟨w.heap.size, 0, none⟩) (by simp only []; omega)).trans c_0
    replace c_1 := (hdr.cell (p := ⟨w.heap.size, 1, none⟩) (by simp only []; omega)).trans c_1
    replace c_2 := (hdr.cell (p := ⟨w.heap.size, 2, none⟩) (by simp only []; omega)).trans c_2
    replace c_3 := (hdr.cell (p := ⟨w.heap.size, 3, none⟩) (by simp only []; omega)).trans c_3
    replace d_0 := (hdr.cell (p := ⟨w.heap.size + 1, 0, none⟩) (by simp only []; omega)).trans d_0
    replace d_1 := (hdr.cell (p := ⟨w.heap.size + 1, 1, none⟩) (by simp only []; omega)).trans d_1
    replace d_2 := (hdr.cell (p := ⟨w.heap.size + 1, 2, none⟩) (by simp only []; omega)).trans d_2
    replace d_3 := (hdr.cell (p := ⟨w.heap.size + 1, 3, none⟩) (by simp only []; omega)).trans d_3
    have s0 := rS_sl (rGl.mono g3 hb3)
    have t0 := rS_sl (rGl.mono k3 hb3)
    by_cases hlt : j < un3
    · obtain ⟨b1, o1, cs, x, rfl, hx, hr, hc⟩ := s0.at hlt
      obtain ⟨b2, o2, ds, y, rfl, hy, hr', hd⟩ := t0.at hlt
      obtain ⟨pb0, pn0, pc0, pb1, pn1, pc1, pb2, pn2, pc2, rfl, g0, g1, g2⟩ := rGs_open hr
      obtain ⟨qb0, qn0, qc0, qb1, qn1, qc1, qb2, qn2, qc2, rfl, k0, k1, k2⟩ := rGs_open hr'
      have e0 : wo.cell? ⟨b1, o1 + j * 3, none⟩ = some (.slice pb0 pn0 pc0) := by have h9 := hc 0 _ rfl; rw [← Nat.add_assoc] at h9; exact h9
      have e1 : wo.cell? ⟨b1, o1 + j * 3 + 1, none⟩ = some (.slice pb1 pn1 pc1) := by have h9 := hc 1 _ rfl; rw [← Nat.add_assoc] at h9; exact h9
      have e2 : wo.cell? ⟨b1, o1 + j * 3 + 2, none⟩ = some (.slice pb2 pn2 pc2) := by have h9 := hc 2 _ rfl; rw [← Nat.add_assoc] at h9; exact h9
      have f0 : wo.cell? ⟨b2, o2 + j * 3, none⟩ = some (.slice qb0 qn0 qc0) := by have h9 := hd 0 _ rfl; rw [← Nat.add_assoc] at h9; exact h9
      have f1 : wo.cell? ⟨b2, o2 + j * 3 + 1, none⟩ = some (.slice qb1 qn1 qc1) := by have h9 := hd 1 _ rfl; rw [← Nat.add_assoc] at h9; exact h9
      have f2 : wo.cell? ⟨b2, o2 + j * 3 + 2, none⟩ = some (.slice qb2 qn2 qc2) := by have h9 := hd 2 _ rfl; rw [← Nat.add_assoc] at h9; exact h9
      clear hc hd s0 t0 hr hr'
      have lb1 : b1 < wo.heap.size := cell_lt e0
      have lb2 : b2 < wo.heap.size := cell_lt f0
      obtain ⟨w4, hw4⟩ : ∃ W, W = wo.alloc (.cells #[.slice pb0 pn0 pc0, .slice pb1 pn1 pc1, .slice pb2 pn2 pc2] 87) := ⟨_, rfl⟩
      have z4 : Below wo.heap.size wo w4 := by rw [hw4]; exact (Below.refl _ _).alloc (Nat.le_refl _) _
      have s4 : w4.heap.size = wo.heap.size + 1 := by rw [hw4]; simp
      have hb4 := on hb3 z4
      have old4_c_0 := c_0
      have old4_c_1 := c_1
      have old4_c_2 := c_2
      have old4_c_3 := c_3
      have old4_d_0 := d_0
      have old4_d_1 := d_1
      have old4_d_2 := d_2
      have old4_d_3 := d_3
      have old4_e0 := e0
      have old4_e1 := e1
      have old4_e2 := e2
      have old4_f0 := f0
      have old4_f1 := f1
      have old4_f2 := f2
      replace c_0 := (z4.cell (p := ⟨w.heap.size, 0, none⟩) (by simp only []; omega)).trans c_0
      replace c_1 := (z4.cell (p := ⟨w.heap.size, 1, none⟩) (by simp only []; omega)).trans c_1
      replace c_2 := (z4.cell (p := ⟨w.heap.size, 2, none⟩) (by simp only []; omega)).trans c_2
      replace c_3 := (z4.cell (p := ⟨w.heap.size, 3, none⟩) (by simp only []; omega)).trans c_3
      replace d_0 := (z4.cell (p := ⟨w.heap.size + 1, 0, none⟩) (by simp only []; omega)).trans d_0
      replace d_1 := (z4.cell (p := ⟨w.heap.size + 1, 1, none⟩) (by simp only []; omega)).trans d_1
      replace d_2 := (z4.cell (p := ⟨w.heap.size + 1, 2, none⟩) (by simp only []; omega)).trans d_2
      replace d_3 := (z4.cell (p := ⟨w.heap.size + 1, 3, none⟩) (by simp only []; omega)).trans d_3
      replace hlc := on hlc z4
      replace e0 := (z4.cell (p := ⟨b1, o1 + j * 3, none⟩) (by simp only []; omega)).trans e0
      replace e1 := (z4.cell (p := ⟨b1, o1 + j * 3 + 1, none⟩) (by simp only []; omega)).trans e1
      replace e2 := (z4.cell (p := ⟨b1, o1 + j * 3 + 2, none⟩) (by simp only []; omega)).trans e2
      replace f0 := (z4.cell (p := ⟨b2, o2 + j * 3, none⟩) (by simp only []; omega)).trans f0
      replace f1 := (z4.cell (p := ⟨b2, o2 + j * 3 + 1, none⟩) (by simp only []; omega)).trans f1
      replace f2 := (z4.cell (p := ⟨b2, o2 + j * 3 + 2, none⟩) (by simp only []; omega)).trans f2
      replace g0 := rI.mono g0 z4
      replace k0 := rI.mono k0 z4
      replace g2 := rI.mono g2 z4
      replace k2 := rI.mono k2 z4
      replace g1 := rII.mono g1 z4
      replace k1 := rII.mono k1 z4
      have p_0 : w4.cell? ⟨wo.heap.size, 0, none⟩ = some (.slice pb0 pn0 pc0) := by rw [hw4]; exact box_cell (Below.refl _ _) rfl
      have p_1 : w4.cell? ⟨wo.heap.size, 1, none⟩ = some (.slice pb1 pn1 pc1) := by rw [hw4]; exact box_cell (Below.refl _ _) rfl
      have p_2 : w4.cell? ⟨wo.heap.size, 2, none⟩ = some (.slice pb2 pn2 pc2) := by rw [hw4]; exact box_cell (Below.refl _ _) rfl
      have raw4_c_0 := c_0
      have raw4_c_1 := c_1
      have raw4_c_2 := c_2
      have raw4_c_3 := c_3
      have raw4_d_0 := d_0
      have raw4_d_1 := d_1
      have raw4_d_2 := d_2
      have raw4_d_3 := d_3
      have raw4_e0 := e0
      have raw4_e1 := e1
      have raw4_e2 := e2
      have raw4_f0 := f0
      have raw4_f1 := f1
      have raw4_f2 := f2
      have raw4_p_0 := p_0
      have raw4_p_1 := p_1
      have raw4_p_2 := p_2
      rw [hw4] at raw4_c_0 raw4_c_1 raw4_c_2 raw4_c_3 raw4_d_0 raw4_d_1 raw4_d_2 raw4_d_3 raw4_e0 raw4_e1 raw4_e2 raw4_f0 raw4_f1 raw4_f2 raw4_p_0 raw4_p_1 raw4_p_2
      obtain ⟨w5, hw5⟩ : ∃ W, W = w4.alloc (.cells #[.slice qb0 qn0 qc0, .slice qb1 qn1 qc1, .slice qb2 qn2 qc2] 87) := ⟨_, rfl⟩
      have z5 : Below w4.heap.size w4 w5 := by rw [hw5]; exact (Below.refl _ _).alloc (Nat.le_refl _) _
      have s5 : w5.heap.size = w4.heap.size + 1 := by rw [hw5]; simp
      have hb5 := on hb4 z5
      replace c_0 := (z5.cell (p := ⟨w.heap.size, 0, none⟩) (by simp only []; omega)).trans c_0
      replace c_1 := (z5.cell (p := ⟨w.heap.size, 1, none⟩) (by simp only []; omega)).trans c_1
      replace c_2 := (z5.cell (p := ⟨w.heap.size, 2, none⟩) (by simp only []; omega)).trans c_2
      replace c_3 := (z5.cell (p := ⟨w.heap.size, 3, none⟩) (by simp only []; omega)).trans c_3
      replace d_0 := (z5.cell (p := ⟨w.heap.size + 1, 0, none⟩) (by simp only []; omega)).trans d_0
      replace d_1 := (z5.cell (p := ⟨w.heap.size + 1, 1, none⟩) (by simp only []; omega)).trans d_1
      replace d_2 := (z5.cell (p := ⟨w.heap.size + 1, 2, none⟩) (by simp only []; omega)).trans d_2
      replace d_3 := (z5.cell (p := ⟨w.heap.size + 1, 3, none⟩) (by simp only []; omega)).trans d_3
      replace hlc := on hlc z5
      replace e0 := (z5.cell (p := ⟨b1, o1 + j * 3, none⟩) (by simp only []; omega)).trans e0
      replace e1 := (z5.cell (p := ⟨b1, o1 + j * 3 + 1, none⟩) (by simp only []; omega)).trans e1
      replace e2 := (z5.cell (p := ⟨b1, o1 + j * 3 + 2, none⟩) (by simp only []; omega)).trans e2
      replace f0 := (z5.cell (p := ⟨b2, o2 + j * 3, none⟩) (by simp only []; omega)).trans f0
      replace f1 := (z5.cell (p := ⟨b2, o2 + j * 3 + 1, none⟩) (by simp only []; omega)).trans f1
      replace f2 := (z5.cell (p := ⟨b2, o2 + j * 3 + 2, none⟩) (by simp only []; omega)).trans f2
      replace g0 := rI.mono g0 z5
      replace k0 := rI.mono k0 z5
      replace g2 := rI.mono g2 z5
      replace k2 := rI.mono k2 z5
      replace g1 := rII.mono g1 z5
      replace k1 := rII.mono k1 z5
      replace p_0 := (z5.cell (p := ⟨wo.heap.size, 0, none⟩) (by simp only []; omega)).trans p_0
      replace p_1 := (z5.cell (p := ⟨wo.heap.size, 1, none⟩) (by simp only []; omega)).trans p_1
      replace p_2 := (z5.cell (p := ⟨wo.heap.size, 2, none⟩) (by simp only []; omega)).trans p_2
      have e5 : w4.heap.size = wo.heap.size + 1 := by omega
      have q_0 : w5.cell? ⟨w4.heap.size, 0, none⟩ = some (.slice qb0 qn0 qc0) := by rw [hw5]; exact box_cell (Below.refl _ _) rfl
      have q_1 : w5.cell? ⟨w4.heap.size, 1, none⟩ = some (.slice qb1 qn1 qc1) := by rw [hw5]; exact box_cell (Below.refl _ _) rfl
      have q_2 : w5.cell? ⟨w4.heap.size, 2, none⟩ = some (.slice qb2 qn2 qc2) := by rw [hw5]; exact box_cell (Below.refl _ _) rfl
      rw [e5] at q_0 q_1 q_2
      have raw5_c_0 := c_0
      have raw5_c_1 := c_1
      have raw5_c_2 := c_2
      have raw5_c_3 := c_3
      have raw5_d_0 := d_0
      have raw5_d_1 := d_1
      have raw5_d_2 := d_2
      have raw5_d_3 := d_3
      have raw5_e0 := e0
      have raw5_e1 := e1
      have raw5_e2 := e2
      have raw5_f0 := f0
      have raw5_f1 := f1
      have raw5_f2 := f2
      have raw5_p_0 := p_0
      have raw5_p_1 := p_1
      have raw5_p_2 := p_2
      have raw5_q_0 := q_0
      have raw5_q_1 := q_1
      have raw5_q_2 := q_2
      rw [hw5, hw4] at raw5_c_0 raw5_c_1 raw5_c_2 raw5_c_3 raw5_d_0 raw5_d_1 raw5_d_2 raw5_d_3 raw5_e0 raw5_e1 raw5_e2 raw5_f0 raw5_f1 raw5_f2 raw5_p_0 raw5_p_1 raw5_p_2 raw5_q_0 raw5_q_1 raw5_q_2
      have HN : Hid (x ≠ y → decide (_ = _) = false) := fun hxy => HY.out (by intro e; subst e; exact hxy (Option.some.inj (hx.out.symm.trans hy.out)))
      have HS : Hid (x = y → xs.take (j + 1) = ys.take (j + 1)) := fun hxy => by rw [take_snoc' xs j x hx.out, take_snoc' ys j y hy.out, hE.out, hxy]
      clear hx hy hE
      go_wp2_with fail
      rw [← hw4]
      rw [← hw5]
      clear hw5 hw4
      clear old4_c_0 old4_c_1 old4_c_2 old4_c_3 old4_d_0 old4_d_1 old4_d_2 old4_d_3 old4_e0 old4_e1 old4_e2 old4_f0 old4_f1 old4_f2 raw4_c_0 raw4_c_1 raw4_c_2 raw4_c_3 raw4_d_0 raw4_d_1 raw4_d_2 raw4_d_3 raw4_e0 raw4_e1 raw4_e2 raw4_f0 raw4_f1 raw4_f2 raw4_p_0 raw4_p_1 raw4_p_2 raw5_c_0 raw5_c_1 raw5_c_2 raw5_c_3 raw5_d_0 raw5_d_1 raw5_d_2 raw5_d_3 raw5_e0 raw5_e1 raw5_e2 raw5_f0 raw5_f1 raw5_f2 raw5_p_0 raw5_p_1 raw5_p_2 raw5_q_0 raw5_q_1 raw5_q_2
      refine (cmp_K _ _ x.1 y.1 _ g0 k0).mono ?_
      rintro e w6 ⟨rfl, z6⟩
      have s7 := z6.size
      have hb7 := on hb5 z6
      replace c_0 := (z6.cell (p := ⟨w.heap.size, 0, none⟩) (by simp only []; omega)).trans c_0
      replace c_1 := (z6.cell (p := ⟨w.heap.size, 1, none⟩) (by simp only []; omega)).trans c_1
      replace c_2 := (z6.cell (p := ⟨w.heap.size, 2, none⟩) (by simp only []; omega)).trans c_2
      replace c_3 := (z6.cell (p := ⟨w.heap.size, 3, none⟩) (by simp only []; omega)).trans c_3
      replace d_0 := (z6.cell (p := ⟨w.heap.size + 1, 0, none⟩) (by simp only []; omega)).trans d_0
      replace d_1 := (z6.cell (p := ⟨w.heap.size + 1, 1, none⟩) (by simp only []; omega)).trans d_1
      replace d_2 := (z6.cell (p := ⟨w.heap.size + 1, 2, none⟩) (by simp only []; omega)).trans d_2
      replace d_3 := (z6.cell (p := ⟨w.heap.size + 1, 3, none⟩) (by simp only []; omega)).trans d_3
      replace hlc := on hlc z6
      replace e0 := (z6.cell (p := ⟨b1, o1 + j * 3, none⟩) (by simp only []; omega)).trans e0
      replace e1 := (z6.cell (p := ⟨b1, o1 + j * 3 + 1, none⟩) (by simp only []; omega)).trans e1
      replace e2 := (z6.cell (p := ⟨b1, o1 + j * 3 + 2, none⟩) (by simp only []; omega)).trans e2
      replace f0 := (z6.cell (p := ⟨b2, o2 + j * 3, none⟩) (by simp only []; omega)).trans f0
      replace f1 := (z6.cell (p := ⟨b2, o2 + j * 3 + 1, none⟩) (by simp only []; omega)).trans f1
      replace f2 := (z6.cell (p := ⟨b2, o2 + j * 3 + 2, none⟩) (by simp only []; omega)).trans f2
      replace g0 := rI.mono g0 z6
      replace k0 := rI.mono k0 z6
      replace g2 := rI.mono g2 z6
      replace k2 := rI.mono k2 z6
      replace g1 := rII.mono g1 z6
      replace k1 := rII.mono k1 z6
      replace p_0 := (z6.cell (p := ⟨wo.heap.size, 0, none⟩) (by simp only []; omega)).trans p_0
      replace p_1 := (z6.cell (p := ⟨wo.heap.size, 1, none⟩) (by simp only []; omega)).trans p_1
      replace p_2 := (z6.cell (p := ⟨wo.heap.size, 2, none⟩) (by simp only []; omega)).trans p_2
      replace q_0 := (z6.cell (p := ⟨wo.heap.size + 1, 0, none⟩) (by simp only []; omega)).trans q_0
      replace q_1 := (z6.cell (p := ⟨wo.heap.size + 1, 1, none⟩) (by simp only []; omega)).trans q_1
      replace q_2 := (z6.cell (p := ⟨wo.heap.size + 1, 2, none⟩) (by simp only []; omega)).trans q_2
      by_cases h1 : x.1 = y.1
      case neg =>
        have HE := Lib.hid (HN.out (by intro e; exact h1 (by rw [e])))
        have hne : (cmpRows x.1 y.1 != 0) = true := bne_iff_ne.2 (fun h => h1 ((cmpRows_zero _ _).1 h))
        clear h1
        go_wp2_with fail
        go_ret
        exact ⟨ret_bool HE.out.symm, hb7⟩
      rw [(cmpRows_zero _ _).2 h1]
      have H1 := Lib.hid h1
      clear h1
      go_wp2_with fail
      refine (cmp_K _ _ x.2.2 y.2.2 _ g2 k2).mono ?_
      rintro e w8 ⟨rfl, z8⟩
      have s9 := z8.size
      have hb9 := on hb7 z8
      replace c_0 := (z8.cell (p := ⟨w.heap.size, 0, none⟩) (by simp only []; omega)).trans c_0
      replace c_1 := (z8.cell (p := ⟨w.heap.size, 1, none⟩) (by simp only []; omega)).trans c_1
      replace c_2 := (z8.cell (p := ⟨w.heap.size, 2, none⟩) (by simp only []; omega)).trans c_2
      replace c_3 := (z8.cell (p := ⟨w.heap.size, 3, none⟩) (by simp only []; omega)).trans c_3
      replace d_0 := (z8.cell (p := ⟨w.heap.size + 1, 0, none⟩) (by simp only []; omega)).trans d_0
      replace d_1 := (z8.cell (p := ⟨w.heap.size + 1, 1, none⟩) (by simp only []; omega)).trans d_1
      replace d_2 := (z8.cell (p := ⟨w.heap.size + 1, 2, none⟩) (by simp only []; omega)).trans d_2
      replace d_3 := (z8.cell (p := ⟨w.heap.size + 1, 3, none⟩) (by simp only []; omega)).trans d_3
      replace hlc := on hlc z8
      replace e0 := (z8.cell (p := ⟨b1, o1 + j * 3, none⟩) (by simp only []; omega)).trans e0
      replace e1 := (z8.cell (p := ⟨b1, o1 + j * 3 + 1, none⟩) (by simp only []; omega)).trans e1
      replace e2 := (z8.cell (p := ⟨b1, o1 + j * 3 + 2, none⟩) (by simp only []; omega)).trans e2
      replace f0 := (z8.cell (p := ⟨b2, o2 + j * 3, none⟩) (by simp only []; omega)).trans f0
      replace f1 := (z8.cell (p := ⟨b2, o2 + j * 3 + 1, none⟩) (by simp only []; omega)).trans f1
      replace f2 := (z8.cell (p := ⟨b2, o2 + j * 3 + 2, none⟩) (by simp only []; omega)).trans f2
      replace g0 := rI.mono g0 z8
      replace k0 := rI.mono k0 z8
      replace g2 := rI.mono g2 z8
      replace k2 := rI.mono k2 z8
      replace g1 := rII.mono g1 z8
      replace k1 := rII.mono k1 z8
      replace p_0 := (z8.cell (p := ⟨wo.heap.size, 0, none⟩) (by simp only []; omega)).trans p_0
      replace p_1 := (z8.cell (p := ⟨wo.heap.size, 1, none⟩) (by simp only []; omega)).trans p_1
      replace p_2 := (z8.cell (p := ⟨wo.heap.size, 2, none⟩) (by simp only []; omega)).trans p_2
      replace q_0 := (z8.cell (p := ⟨wo.heap.size + 1, 0, none⟩) (by simp only []; omega)).trans q_0
      replace q_1 := (z8.cell (p := ⟨wo.heap.size + 1, 1, none⟩) (by simp only []; omega)).trans q_1
      replace q_2 := (z8.cell (p := ⟨wo.heap.size + 1, 2, none⟩) (by simp only []; omega)).trans q_2
      by_cases h3 : x.2.2 = y.2.2
      case neg =>
        have HE := Lib.hid (HN.out (by intro e; exact h3 (by rw [e])))
        have hne : (cmpRows x.2.2 y.2.2 != 0) = true := bne_iff_ne.2 (fun h => h3 ((cmpRows_zero _ _).1 h))
        clear h3
        go_wp2_with fail
        go_ret
        exact ⟨ret_bool HE.out.symm, hb9⟩
      rw [(cmpRows_zero _ _).2 h3]
      have H3 := Lib.hid h3
      clear h3
      have s1 := rS_sl g1
      have t1 := rS_sl k1
      have m1 := s1.len
      have m2 := t1.len
      have m3 := s1.small
      have m4 := t1.small
      by_cases hm : pn1 = qn1
      case neg =>
        have HE := Lib.hid (HN.out (by rintro rfl; omega))
        have hne : ((pn1 : Int) != (qn1 : Int)) = true := by rw [bne_iff_ne]; omega
        clear s1 t1 m1 m2
        go_wp2_with fail
        go_ret
        exact ⟨ret_bool HE.out.symm, hb9⟩
      subst hm
      obtain ⟨xs', hxs⟩ : ∃ l, x.2.1 = l := ⟨_, rfl⟩
      obtain ⟨ys', hys⟩ : ∃ l, y.2.1 = l := ⟨_, rfl⟩
      have HN' : Hid (xs' ≠ ys' → _) := fun h => HN.out (by intro e; subst e; exact h (hxs.symm.trans hys))
      have HS' : Hid (xs' = ys' → xs.take (j + 1) = ys.take (j + 1)) := fun h => HS.out (Prod.ext H1.out (Prod.ext (hxs.trans (h.trans hys.symm)) H3.out))
      rw [hxs] at s1 m1
      rw [hys] at t1 m2
      clear hxs hys HN HS H1 H3 g0 k0 g1 k1 g2 k2
      go_wp2_with fail
      go_loopw [8] (fun k wr => ∃ i : Nat, i ≤ pn1 ∧ k = .int .i64 i ∧ Hid (xs'.take i = ys'.take i) ∧ Drew w8 wr) (fun k _ => pn1 - (intOf k).toNat)
      case atStart => exact ⟨0, Nat.zero_le _, rfl, rfl, Drew.refl _⟩
      case round =>
        obtain ⟨i, hi, rfl, hE, hdq⟩ := hrel
        have hdq' := hdq
        replace hdq' : Below w8.heap.size w8 wr := hdq'.below _
        have s10 := hdq'.size
        have hb10 := on hb9 hdq'
        replace c_0 := (hdq'.cell (p := ⟨w.heap.size, 0, none⟩) (by simp only []; omega)).trans c_0
        replace c_1 := (hdq'.cell (p := ⟨w.heap.size, 1, none⟩) (by simp only []; omega)).trans c_1
        replace c_2 := (hdq'.cell (p := ⟨w.heap.size, 2, none⟩) (by simp only []; omega)).trans c_2
        replace c_3 := (hdq'.cell (p := ⟨w.heap.size, 3, none⟩) (by simp only []; omega)).trans c_3
        replace d_0 := (hdq'.cell (p := ⟨w.heap.size + 1, 0, none⟩) (by simp only []; omega)).trans d_0
        replace d_1 := (hdq'.cell (p := ⟨w.heap.size + 1, 1, none⟩) (by simp only []; omega)).trans d_1
        replace d_2 := (hdq'.cell (p := ⟨w.heap.size + 1, 2, none⟩) (by simp only []; omega)).trans d_2
        replace d_3 := (hdq'.cell (p := ⟨w.heap.size + 1, 3, none⟩) (by simp only []; omega)).trans d_3
        replace hlc := on hlc hdq'
        replace e0 := (hdq'.cell (p := ⟨b1, o1 + j * 3, none⟩) (by simp only []; omega)).trans e0
        replace e1 := (hdq'.cell (p := ⟨b1, o1 + j * 3 + 1, none⟩) (by simp only []; omega)).trans e1
        replace e2 := (hdq'.cell (p := ⟨b1, o1 + j * 3 + 2, none⟩) (by simp only []; omega)).trans e2
        replace f0 := (hdq'.cell (p := ⟨b2, o2 + j * 3, none⟩) (by simp only []; omega)).trans f0
        replace f1 := (hdq'.cell (p := ⟨b2, o2 + j * 3 + 1, none⟩) (by simp only []; omega)).trans f1
        replace f2 := (hdq'.cell (p := ⟨b2, o2 + j * 3 + 2, none⟩) (by simp only []; omega)).trans f2
        replace p_0 := (hdq'.cell (p := ⟨wo.heap.size, 0, none⟩) (by simp only []; omega)).trans p_0
        replace p_1 := (hdq'.cell (p := ⟨wo.heap.size, 1, none⟩) (by simp only []; omega)).trans p_1
        replace p_2 := (hdq'.cell (p := ⟨wo.heap.size, 2, none⟩) (by simp only []; omega)).trans p_2
        replace q_0 := (hdq'.cell (p := ⟨wo.heap.size + 1, 0, none⟩) (by simp only []; omega)).trans q_0
        replace q_1 := (hdq'.cell (p := ⟨wo.heap.size + 1, 1, none⟩) (by simp only []; omega)).trans q_1
        replace q_2 := (hdq'.cell (p := ⟨wo.heap.size + 1, 2, none⟩) (by simp only []; omega)).trans q_2
        replace s1 := s1.below hdq'
        replace t1 := t1.below hdq'
        by_cases hlq : i < pn1
        · obtain ⟨b3, o3, r1, m1', q1, x', rfl, hc, hx, hi1, _⟩ := s1.row hlq
          obtain ⟨b4, o4, r2, m2', q2, y', rfl, hc', hy, hi2, _⟩ := t1.row hlq
          have hcall := fun q => cmp_spec r1 r2 m1' m2' q1 q2 x' y' (wr.drewN q) (hi1.drewN q) (hi2.drewN q)
          by_cases hxy : x' = y'
          · have HE := Lib.hid (show xs'.take (i + 1) = ys'.take (i + 1) by rw [take_snoc' xs' i x' hx.out, take_snoc' ys' i y' hy.out, hE.out, hxy])
            rw [(cmpRows_zero x' y').2 hxy] at hcall
            have HC := Lib.hid hcall
            clear s1 t1 m1 m2 hi1 hi2 hxy hcall hx hy hE
            go_wp2_with fail
            go_quiet ((go_at_call 61; exact quiet_drew (HC.out _)))
            go_wp2_with fail
            go_roundw
            case rel => exact ⟨i + 1, by omega, by go_num, HE.out, hdq.step _⟩
            case measure => simp [intOf]; omega
          · have HE := Lib.hid (HN'.out (by
              intro e; subst e; exact hxy (Option.some.inj (hx.out.symm.trans hy.out))))
            obtain ⟨p, hp⟩ : ∃ p, p = cmpRows x' y' := ⟨_, rfl⟩
            rw [← hp] at hcall
            have hne : (p != 0) = true := bne_iff_ne.2 (fun h => hxy ((cmpRows_zero _ _).1 (hp.symm.trans h)))
            have HC := Lib.hid hcall
            clear s1 t1 m1 m2 hi1 hi2 hxy hcall hp hx hy
            go_wp2_with fail
            go_quiet ((go_at_call 61; exact quiet_drew (HC.out _)))
            go_wp2_with fail
            go_ret
            exact ⟨ret_bool HE.out.symm, onD hb10 ⟨_, rfl⟩⟩
        · have HE := Lib.hid (HS'.out (by
            have e := hE.out
            rwa [List.take_of_length_le (by omega), List.take_of_length_le (by omega)] at e))
          clear s1 t1 m1 m2 hE
          go_wp2_with fail
          go_roundw
          case rel => exact ⟨j + 1, by omega, by go_num, HE.out, hlc⟩
          case measure => simp [intOf]; omega
    · have e := hE.out
      rw [List.take_of_length_le (by omega), List.take_of_length_le (by omega)] at e
      have HE := Lib.hid (HX.out e)
      clear s0 t0 hl hl' e
      go_wp2_with fail
      go_ret
      exact ⟨ret_bool HE.out.symm, hb3⟩

end Go.Proofs.Ytogblmfmmlbahaa
