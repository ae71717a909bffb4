/- Contracts: data compared by the program. Written by a program. -/
import Derived.Test.YtogblmfmmlbahaaKEqual
import Derived.Test.YtogblmfmmlbahaaKTs
import Derived.Deep.RegionHeld3
namespace Go.Proofs.Ytogblmfmmlbahaa
open Go.RowKit
set_option linter.unusedVariables false
set_option linter.unusedSimpArgs false
set_option synthInstance.maxSize 2000
set_option synthInstance.maxHeartbeats 400000

set_option maxHeartbeats 2000000 in
theorem equalGs_any (cs ds : List Value) (x y : DGs) (w : World) (h : rGs.rep w cs x) (h' : rGs.rep w ds y) :
    Calls Try.prog 84 #[.agg cs.toArray, .agg ds.toArray] w fun e w' => e = .returned (.bool (decide (x = y))) ∧ Below w.heap.size w w' := by
  obtain ⟨ub0, un0, uc0, ub1, un1, uc1, ub2, un2, uc2, rfl, g0, g1, g2⟩ := rGs_open h
  obtain ⟨vb0, vn0, vc0, vb1, vn1, vc1, vb2, vn2, vc2, rfl, k0, k1, k2⟩ := rGs_open h'
  clear h h'
  have hb1 : Below w.heap.size w ((w.alloc (.cells #[.slice ub0 un0 uc0, .slice ub1 un1 uc1, .slice ub2 un2 uc2] 87)).alloc (.cells #[.slice vb0 vn0 vc0, .slice vb1 vn1 vc1, .slice vb2 vn2 vc2] 87)) := ((Below.refl _ _).alloc (Nat.le_refl _) _).alloc (by simp) _
  go_enter Try.func84, Try.ntmps84
  obtain ⟨w1, hw1⟩ : ∃ W, W = (w.alloc (.cells #[.slice ub0 un0 uc0, .slice ub1 un1 uc1, .slice ub2 un2 uc2] 87)).alloc (.cells #[.slice vb0 vn0 vc0, .slice vb1 vn1 vc1, .slice vb2 vn2 vc2] 87) := ⟨_, rfl⟩
  have s1 : w1.heap.size = w.heap.size + 1 + 1 := by rw [hw1]; simp
  rw [← hw1] at hb1
  have bc_0 : w1.cell? ⟨w.heap.size, 0, none⟩ = some (.slice ub0 un0 uc0) := by rw [hw1]; simp [go_sem, World.cell?_alloc_past]
  have bd_0 : w1.cell? ⟨w.heap.size + 1, 0, none⟩ = some (.slice vb0 vn0 vc0) := by rw [hw1]; simp [go_sem, World.cell?_alloc_past]
  have bc_1 : w1.cell? ⟨w.heap.size, 1, none⟩ = some (.slice ub1 un1 uc1) := by rw [hw1]; simp [go_sem, World.cell?_alloc_past]
  have bd_1 : w1.cell? ⟨w.heap.size + 1, 1, none⟩ = some (.slice vb1 vn1 vc1) := by rw [hw1]; simp [go_sem, World.cell?_alloc_past]
  have bc_2 : w1.cell? ⟨w.heap.size, 2, none⟩ = some (.slice ub2 un2 uc2) := by rw [hw1]; simp [go_sem, World.cell?_alloc_past]
  have bd_2 : w1.cell? ⟨w.heap.size + 1, 2, none⟩ = some (.slice vb2 vn2 vc2) := by rw [hw1]; simp [go_sem, World.cell?_alloc_past]
  go_wp2_with fail
  rw [← hw1]
  clear hw1
  refine (equalInts_K _ _ (x.1) (y.1) _ (rI.mono g0 hb1) (rI.mono k0 hb1)).mono ?_
  rintro e w2 ⟨rfl, z2⟩
  have s2 := z2.size
  have hb2 := on hb1 z2
  replace bc_0 := (z2.cell (p := ⟨w.heap.size, 0, none⟩) (by simp only []; omega)).trans bc_0
  replace bd_0 := (z2.cell (p := ⟨w.heap.size + 1, 0, none⟩) (by simp only []; omega)).trans bd_0
  replace bc_1 := (z2.cell (p := ⟨w.heap.size, 1, none⟩) (by simp only []; omega)).trans bc_1
  replace bd_1 := (z2.cell (p := ⟨w.heap.size + 1, 1, none⟩) (by simp only []; omega)).trans bd_1
  replace bc_2 := (z2.cell (p := ⟨w.heap.size, 2, none⟩) (by simp only []; omega)).trans bc_2
  replace bd_2 := (z2.cell (p := ⟨w.heap.size + 1, 2, none⟩) (by simp only []; omega)).trans bd_2
  by_cases e0 : x.1 = y.1
  case neg =>
    have HE := Lib.hid (show decide (x = y) = false by simp only [decide_eq_false_iff_not]; intro h9; exact e0 (by rw [h9]))
    have hne : decide (x.1 = y.1) = false := by simpa using e0
    rw [hne]
    clear e0 hne
    go_wp2_with fail
    go_ret
    exact ⟨ret_bool HE.out.symm, hb2⟩
  have E0 := Lib.hid e0
  have hq0 : decide (x.1 = y.1) = true := by simpa using e0
  rw [hq0]
  clear e0 hq0
  go_wp2_with fail
  refine (equalRows_any _ _ (x.2.1) (y.2.1) _ (rII.mono g1 hb2) (rII.mono k1 hb2)).mono ?_
  rintro e w3 ⟨rfl, z3⟩
  have s3 := z3.size
  have hb3 := on hb2 z3
  replace bc_0 := (z3.cell (p := ⟨w.heap.size, 0, none⟩) (by simp only []; omega)).trans bc_0
  replace bd_0 := (z3.cell (p := ⟨w.heap.size + 1, 0, none⟩) (by simp only []; omega)).trans bd_0
  replace bc_1 := (z3.cell (p := ⟨w.heap.size, 1, none⟩) (by simp only []; omega)).trans bc_1
  replace bd_1 := (z3.cell (p := ⟨w.heap.size + 1, 1, none⟩) (by simp only []; omega)).trans bd_1
  replace bc_2 := (z3.cell (p := ⟨w.heap.size, 2, none⟩) (by simp only []; omega)).trans bc_2
  replace bd_2 := (z3.cell (p := ⟨w.heap.size + 1, 2, none⟩) (by simp only []; omega)).trans bd_2
  by_cases e1 : x.2.1 = y.2.1
  case neg =>
    have HE := Lib.hid (show decide (x = y) = false by simp only [decide_eq_false_iff_not]; intro h9; exact e1 (by rw [h9]))
    have hne : decide (x.2.1 = y.2.1) = false := by simpa using e1
    rw [hne]
    clear e1 hne
    go_wp2_with fail
    go_ret
    exact ⟨ret_bool HE.out.symm, hb3⟩
  have E1 := Lib.hid e1
  have hq1 : decide (x.2.1 = y.2.1) = true := by simpa using e1
  rw [hq1]
  clear e1 hq1
  go_wp2_with fail
  refine (equalInts_K _ _ (x.2.2) (y.2.2) _ (rI.mono g2 hb3) (rI.mono k2 hb3)).mono ?_
  rintro e w4 ⟨rfl, z4⟩
  have s4 := z4.size
  have hb4 := on hb3 z4
  replace bc_0 := (z4.cell (p := ⟨w.heap.size, 0, none⟩) (by simp only []; omega)).trans bc_0
  replace bd_0 := (z4.cell (p := ⟨w.heap.size + 1, 0, none⟩) (by simp only []; omega)).trans bd_0
  replace bc_1 := (z4.cell (p := ⟨w.heap.size, 1, none⟩) (by simp only []; omega)).trans bc_1
  replace bd_1 := (z4.cell (p := ⟨w.heap.size + 1, 1, none⟩) (by simp only []; omega)).trans bd_1
  replace bc_2 := (z4.cell (p := ⟨w.heap.size, 2, none⟩) (by simp only []; omega)).trans bc_2
  replace bd_2 := (z4.cell (p := ⟨w.heap.size + 1, 2, none⟩) (by simp only []; omega)).trans bd_2
  by_cases e2 : x.2.2 = y.2.2
  case neg =>
    have HE := Lib.hid (show decide (x = y) = false by simp only [decide_eq_false_iff_not]; intro h9; exact e2 (by rw [h9]))
    have hne : decide (x.2.2 = y.2.2) = false := by simpa using e2
    rw [hne]
    clear e2 hne
    go_wp2_with fail
    go_ret
    exact ⟨ret_bool HE.out.symm, hb4⟩
  have E2 := Lib.hid e2
  have hq2 : decide (x.2.2 = y.2.2) = true := by simpa using e2
  rw [hq2]
  clear e2 hq2
  have HE := Lib.hid (show decide (x = y) = true by simp only [decide_eq_true_eq]; exact Prod.ext E0.out (Prod.ext E1.out (E2.out)))
  go_wp2_with fail
  go_ret
  exact ⟨ret_bool HE.out.symm, hb4⟩

set_option maxHeartbeats 2000000 in
theorem equalFunc_Gl (u v : Value) (xs ys : List DGs) (w : World) (h : rGl.rep w [u] xs) (h' : rGl.rep w [v] ys) :
    Calls Try.prog 83 #[u, v, .func (Fn.func 84) #[] #[]] w fun e w' => e = .returned (.bool (decide (xs = ys))) ∧ Below w.heap.size w w' := by
  obtain ⟨a, cap, rfl, _, _, hi⟩ := rS_open h
  obtain ⟨a', cap', rfl, _, _, hi'⟩ := rS_open h'
  clear h h'
  have hn := hi.small
  have hn' := hi'.small
  obtain ⟨n, hl⟩ : ∃ n, xs.length = n := ⟨_, rfl⟩
  obtain ⟨m, hl'⟩ : ∃ n, ys.length = n := ⟨_, rfl⟩
  rw [hl] at hi hn ⊢
  rw [hl'] at hi' hn' ⊢
  by_cases hnm : n = m
  case neg =>
    have HE := Lib.hid (show decide (xs = ys) = false by simp only [decide_eq_false_iff_not]; intro e; subst e; omega)
    have hne : ((n : Int) != (m : Int)) = true := by rw [bne_iff_ne]; omega
    clear hl hl' hi hi'
    go_enter Try.func83, Try.ntmps83
    go_wp2_with fail
    go_ret
    exact ⟨ret_bool HE.out.symm, Below.refl _ _⟩
  subst hnm
  go_enter Try.func83, Try.ntmps83
  go_wp2_with fail
  go_loopw [7, 8, 17] (fun _ _ k wr => ∃ j : Nat, j ≤ n ∧ k = .int .i64 j ∧ Hid (xs.take j = ys.take j) ∧ Below w.heap.size w wr) (fun _ _ k _ => n - (intOf k).toNat)
  case atStart => exact ⟨0, Nat.zero_le _, rfl, rfl, Below.refl _ _⟩
  case round =>
    obtain ⟨j, hj, rfl, hE, hb⟩ := hrel
    by_cases hlt : j < n
    · obtain ⟨b, off, cs, x, rfl, hx, hr, hc⟩ := (hi.below hb).at hlt
      obtain ⟨b', off', ds, y, rfl, hy, hr', hd⟩ := (hi'.below hb).at hlt
      obtain ⟨ub0, un0, uc0, ub1, un1, uc1, ub2, un2, uc2, rfl⟩ := rGs_form hr
      obtain ⟨vb0, vn0, vc0, vb1, vn1, vc1, vb2, vn2, vc2, rfl⟩ := rGs_form hr'
      have c0 : wr.cell? ⟨b, off + j * 3, none⟩ = some (.slice ub0 un0 uc0) := by have h9 := hc 0 _ rfl; rw [← Nat.add_assoc] at h9; exact h9
      have c1 : wr.cell? ⟨b, off + j * 3 + 1, none⟩ = some (.slice ub1 un1 uc1) := by have h9 := hc 1 _ rfl; rw [← Nat.add_assoc] at h9; exact h9
      have c2 : wr.cell? ⟨b, off + j * 3 + 2, none⟩ = some (.slice ub2 un2 uc2) := by have h9 := hc 2 _ rfl; rw [← Nat.add_assoc] at h9; exact h9
      have d0 : wr.cell? ⟨b', off' + j * 3, none⟩ = some (.slice vb0 vn0 vc0) := by have h9 := hd 0 _ rfl; rw [← Nat.add_assoc] at h9; exact h9
      have d1 : wr.cell? ⟨b', off' + j * 3 + 1, none⟩ = some (.slice vb1 vn1 vc1) := by have h9 := hd 1 _ rfl; rw [← Nat.add_assoc] at h9; exact h9
      have d2 : wr.cell? ⟨b', off' + j * 3 + 2, none⟩ = some (.slice vb2 vn2 vc2) := by have h9 := hd 2 _ rfl; rw [← Nat.add_assoc] at h9; exact h9
      have hcall := fun (W : World) (hW : Below wr.heap.size wr W) => equalGs_any _ _ x y W (rGs.mono hr hW) (rGs.mono hr' hW)
      have lb' : b' < wr.heap.size := cell_lt d0
      have da0 : (wr.alloc (.cells #[.slice ub0 un0 uc0, .slice ub1 un1 uc1, .slice ub2 un2 uc2] 87)).cell? ⟨b', off' + j * 3, none⟩ = some (.slice vb0 vn0 vc0) := (((Below.refl _ _).alloc (Nat.le_refl _) _).cell (B := wr.heap.size) (p := ⟨b', off' + j * 3, none⟩) lb').trans d0
      have da1 : (wr.alloc (.cells #[.slice ub0 un0 uc0, .slice ub1 un1 uc1, .slice ub2 un2 uc2] 87)).cell? ⟨b', off' + j * 3 + 1, none⟩ = some (.slice vb1 vn1 vc1) := (((Below.refl _ _).alloc (Nat.le_refl _) _).cell (B := wr.heap.size) (p := ⟨b', off' + j * 3 + 1, none⟩) lb').trans d1
      have da2 : (wr.alloc (.cells #[.slice ub0 un0 uc0, .slice ub1 un1 uc1, .slice ub2 un2 uc2] 87)).cell? ⟨b', off' + j * 3 + 2, none⟩ = some (.slice vb2 vn2 vc2) := (((Below.refl _ _).alloc (Nat.le_refl _) _).cell (B := wr.heap.size) (p := ⟨b', off' + j * 3 + 2, none⟩) lb').trans d2
      obtain ⟨t, ht⟩ : ∃ t, t = decide (x = y) := ⟨_, rfl⟩
      rw [← ht] at hcall
      have HC := Lib.hid hcall
      clear hcall hi hi' hr hr' hc hd
      have HT : Hid (if t = true then xs.take (j + 1) = ys.take (j + 1) else decide (xs = ys) = false) := by
        cases t
        · simp only [Bool.false_eq_true, if_false]
          have hxy : x ≠ y := by simpa using ht.symm
          simp only [Hid, Bool.false_eq_true, if_false, decide_eq_false_iff_not]; intro e; subst e; exact hxy (Option.some.inj (hx.out.symm.trans hy.out))
        · have hxy : x = y := by simpa using ht.symm
          simp only [Hid, if_true]; rw [take_snoc' xs j x hx.out, take_snoc' ys j y hy.out, hE.out, hxy]
      clear ht hx hy hE
      go_wp2_with fail
      have hbx : Below wr.heap.size wr ((wr.alloc (.cells #[.slice ub0 un0 uc0, .slice ub1 un1 uc1, .slice ub2 un2 uc2] 87)).alloc (.cells #[.slice vb0 vn0 vc0, .slice vb1 vn1 vc1, .slice vb2 vn2 vc2] 87)) := ((Below.refl _ _).alloc (Nat.le_refl _) _).alloc (by simp) _
      refine (HC.out _ hbx).mono ?_
      rintro e w1 ⟨rfl, z1⟩
      have z2 := on hb (on hbx z1)
      clear hbx da0 da1 da2
      cases t
      · have HE : Hid (decide (xs = ys) = false) := by simpa [Hid] using HT.out
        go_wp2_with fail
        go_ret
        exact ⟨ret_bool HE.out.symm, z2⟩
      · have HE : Hid (xs.take (j + 1) = ys.take (j + 1)) := by simpa [Hid] using HT.out
        go_wp2_with fail
        go_roundw
        case rel => exact ⟨j + 1, by omega, by go_num, HE.out, z2⟩
        case measure => simp [intOf]; omega
    · have HE := Lib.hid (show decide (xs = ys) = true by
        have e := hE.out
        rw [List.take_of_length_le (by omega), List.take_of_length_le (by omega)] at e
        simp [e])
      clear hi hi' hl hl'
      go_wp2_with fail
      go_ret
      exact ⟨ret_bool HE.out.symm, hb⟩

set_option maxHeartbeats 2000000 in
theorem equalTs_impl (cs ds : List Value) (x y : DTs) (w : World) (h : rTs.rep w cs x) (h' : rTs.rep w ds y) :
    Calls Try.prog 38 #[.agg cs.toArray, .agg ds.toArray] w fun e w' => e = .returned (.bool (decide (x = y))) ∧ Below w.heap.size w w' := by
  obtain ⟨ub3, un3, uc3, rfl, g0, g1, g2, g3⟩ := rTs_open h
  obtain ⟨vb3, vn3, vc3, rfl, k0, k1, k2, k3⟩ := rTs_open h'
  clear h h'
  have hb1 : Below w.heap.size w ((w.alloc (.cells #[.string x.1, .int .i64 x.2.1, .int .i64 x.2.2.1, .slice ub3 un3 uc3] 56)).alloc (.cells #[.string y.1, .int .i64 y.2.1, .int .i64 y.2.2.1, .slice vb3 vn3 vc3] 56)) := ((Below.refl _ _).alloc (Nat.le_refl _) _).alloc (by simp) _
  go_enter Try.func38, Try.ntmps38
  obtain ⟨w1, hw1⟩ : ∃ W, W = (w.alloc (.cells #[.string x.1, .int .i64 x.2.1, .int .i64 x.2.2.1, .slice ub3 un3 uc3] 56)).alloc (.cells #[.string y.1, .int .i64 y.2.1, .int .i64 y.2.2.1, .slice vb3 vn3 vc3] 56) := ⟨_, rfl⟩
  have s1 : w1.heap.size = w.heap.size + 1 + 1 := by rw [hw1]; simp
  rw [← hw1] at hb1
  have bc_0 : w1.cell? ⟨w.heap.size, 0, none⟩ = some (.string x.1) := by rw [hw1]; simp [go_sem, World.cell?_alloc_past]
  have bd_0 : w1.cell? ⟨w.heap.size + 1, 0, none⟩ = some (.string y.1) := by rw [hw1]; simp [go_sem, World.cell?_alloc_past]
  have bc_1 : w1.cell? ⟨w.heap.size, 1, none⟩ = some (.int .i64 x.2.1) := by rw [hw1]; simp [go_sem, World.cell?_alloc_past]
  have bd_1 : w1.cell? ⟨w.heap.size + 1, 1, none⟩ = some (.int .i64 y.2.1) := by rw [hw1]; simp [go_sem, World.cell?_alloc_past]
  have bc_2 : w1.cell? ⟨w.heap.size, 2, none⟩ = some (.int .i64 x.2.2.1) := by rw [hw1]; simp [go_sem, World.cell?_alloc_past]
  have bd_2 : w1.cell? ⟨w.heap.size + 1, 2, none⟩ = some (.int .i64 y.2.2.1) := by rw [hw1]; simp [go_sem, World.cell?_alloc_past]
  have bc_3 : w1.cell? ⟨w.heap.size, 3, none⟩ = some (.slice ub3 un3 uc3) := by rw [hw1]; simp [go_sem, World.cell?_alloc_past]
  have bd_3 : w1.cell? ⟨w.heap.size + 1, 3, none⟩ = some (.slice vb3 vn3 vc3) := by rw [hw1]; simp [go_sem, World.cell?_alloc_past]
  by_cases e0 : x.1 = y.1
  case neg =>
    have HE := Lib.hid (show decide (x = y) = false by simp only [decide_eq_false_iff_not]; intro h9; exact e0 (by rw [h9]))
    have hne := bytes_ne e0
    clear e0
    go_wp2_with fail
    go_ret
    exact ⟨ret_bool HE.out.symm, by first | exact hb1 | (rw [hw1] at hb1; exact hb1)⟩
  have E0 := Lib.hid e0
  have hq0 : (x.1.toList == y.1.toList) = true := by rw [e0]; simp
  clear e0
  by_cases e1 : x.2.1 = y.2.1
  case neg =>
    have HE := Lib.hid (show decide (x = y) = false by simp only [decide_eq_false_iff_not]; intro h9; exact e1 (by rw [h9]))
    have hne : (x.2.1 == y.2.1) = false := beq_eq_false_iff_ne.2 e1
    clear e1
    go_wp2_with fail
    go_ret
    exact ⟨ret_bool HE.out.symm, by first | exact hb1 | (rw [hw1] at hb1; exact hb1)⟩
  have E1 := Lib.hid e1
  have hq1 : (x.2.1 == y.2.1) = true := by rw [e1]; simp
  clear e1
  by_cases e2 : x.2.2.1 = y.2.2.1
  case neg =>
    have HE := Lib.hid (show decide (x = y) = false by simp only [decide_eq_false_iff_not]; intro h9; exact e2 (by rw [h9]))
    have hne : (x.2.2.1 == y.2.2.1) = false := beq_eq_false_iff_ne.2 e2
    clear e2
    go_wp2_with fail
    go_ret
    exact ⟨ret_bool HE.out.symm, by first | exact hb1 | (rw [hw1] at hb1; exact hb1)⟩
  have E2 := Lib.hid e2
  have hq2 : (x.2.2.1 == y.2.2.1) = true := by rw [e2]; simp
  clear e2
  go_wp2_with fail
  rw [← hw1]
  clear hw1
  refine (equalFunc_Gl _ _ (x.2.2.2) (y.2.2.2) _ (rGl.mono g3 hb1) (rGl.mono k3 hb1)).mono ?_
  rintro e w2 ⟨rfl, z2⟩
  have s2 := z2.size
  have hb2 := on hb1 z2
  replace bc_0 := (z2.cell (p := ⟨w.heap.size, 0, none⟩) (by simp only []; omega)).trans bc_0
  replace bd_0 := (z2.cell (p := ⟨w.heap.size + 1, 0, none⟩) (by simp only []; omega)).trans bd_0
  replace bc_1 := (z2.cell (p := ⟨w.heap.size, 1, none⟩) (by simp only []; omega)).trans bc_1
  replace bd_1 := (z2.cell (p := ⟨w.heap.size + 1, 1, none⟩) (by simp only []; omega)).trans bd_1
  replace bc_2 := (z2.cell (p := ⟨w.heap.size, 2, none⟩) (by simp only []; omega)).trans bc_2
  replace bd_2 := (z2.cell (p := ⟨w.heap.size + 1, 2, none⟩) (by simp only []; omega)).trans bd_2
  replace bc_3 := (z2.cell (p := ⟨w.heap.size, 3, none⟩) (by simp only []; omega)).trans bc_3
  replace bd_3 := (z2.cell (p := ⟨w.heap.size + 1, 3, none⟩) (by simp only []; omega)).trans bd_3
  by_cases e3 : x.2.2.2 = y.2.2.2
  case neg =>
    have HE := Lib.hid (show decide (x = y) = false by simp only [decide_eq_false_iff_not]; intro h9; exact e3 (by rw [h9]))
    have hne : decide (x.2.2.2 = y.2.2.2) = false := by simpa using e3
    rw [hne]
    clear e3 hne
    go_wp2_with fail
    go_ret
    exact ⟨ret_bool HE.out.symm, hb2⟩
  have E3 := Lib.hid e3
  have hq3 : decide (x.2.2.2 = y.2.2.2) = true := by simpa using e3
  rw [hq3]
  clear e3 hq3
  have HE := Lib.hid (show decide (x = y) = true by simp only [decide_eq_true_eq]; exact Prod.ext E0.out (Prod.ext E1.out (Prod.ext E2.out (E3.out))))
  go_wp2_with fail
  go_ret
  exact ⟨ret_bool HE.out.symm, hb2⟩

end Go.Proofs.Ytogblmfmmlbahaa
