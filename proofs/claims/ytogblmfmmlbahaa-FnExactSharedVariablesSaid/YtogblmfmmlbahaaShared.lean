/- Contracts: shared variables. -/
import Derived.Test.YtogblmfmmlbahaaMaskI
import Derived.Test.YtogblmfmmlbahaaAcc
import Derived.Deep.RegionHeld3
namespace Go.Proofs.Ytogblmfmmlbahaa
open Go.RowKit
set_option linter.unusedVariables false
set_option linter.unusedSimpArgs false
set_option synthInstance.maxSize 2000
set_option synthInstance.maxHeartbeats 400000

/-- SharedVariables. -/
def sharedVars (q : DQ) (a b : Int) : List Int := both (maskVars q a) (maskVars q b)

theorem shared_cnt (q : DQ) (a b : Int) : cnt_I (sharedVars q a b) ≤ 4 := Nat.le_trans (both_len _ _) (maskVars_len q a)

set_option maxHeartbeats 2000000 in
theorem shared_impl (cs : List Value) (x : DQ) (k l : Int) (w : World) (h : rQ.rep w cs x) :
    Calls Try.prog 50 #[.agg cs.toArray, .int .i64 k, .int .i64 l] w fun e w' => ∃ u, e = .returned u ∧ Own oI w.heap.size w'.heap.size w' [u] (sharedVars x k l) ∧ Below w.heap.size w w' := by
  obtain ⟨ub, un, uc, rfl⟩ := rQ_form h
  have hb0 : Below w.heap.size w w := Below.refl _ _
  have hml := maskVars_len x k
  go_enter Try.func50, Try.ntmps50
  obtain ⟨w1, hw1⟩ : ∃ W, W = w.alloc (.cells #[.int .i64 x.1, .slice ub un uc] 41) := ⟨_, rfl⟩
  have z1 : Below w.heap.size w w1 := by rw [hw1]; exact (Below.refl _ _).alloc (Nat.le_refl _) _
  have s1 : w1.heap.size = w.heap.size + 1 := by rw [hw1]; simp
  have hb1 := on hb0 z1
  have b_0 : w1.cell? ⟨w.heap.size, 0, none⟩ = some (.int .i64 x.1) := by rw [hw1]; exact box_cell (Below.refl _ _) rfl
  have b_1 : w1.cell? ⟨w.heap.size, 1, none⟩ = some (.slice ub un uc) := by rw [hw1]; exact box_cell (Below.refl _ _) rfl
  have raw1_b_0 := b_0
  have raw1_b_1 := b_1
  rw [hw1] at raw1_b_0 raw1_b_1
  go_wp2_with fail
  rw [← hw1]
  clear hw1
  clear raw1_b_0 raw1_b_1
  go_region_held3 (fun W => W.cell? ⟨w.heap.size, 0, none⟩ = some (.int .i64 x.1) ∧ W.cell? ⟨w.heap.size, 1, none⟩ = some (.slice ub un uc)) (first | exact ⟨b_0, b_1⟩ | assumption) (first | (go_at_call 45; (with_reducible refine (maskVars_impl _ x k _ (rQ.mono h hb1.drew)).mono ?_); rintro e w2 ⟨u1, rfl, o1, z2⟩; replace z2 : Below w1.heap.size w1 w2 := on (Below.refl _ _).drew z2; have sz2 := z2.size; obtain ⟨vb1, vn1, vc1, rfl⟩ := oI_form1 o1; have hS2 := (⟨(z2.cell (p := ⟨w.heap.size, 0, none⟩) (by simp only []; omega)).trans b_0, (z2.cell (p := ⟨w.heap.size, 1, none⟩) (by simp only []; omega)).trans b_1⟩ : (fun W => W.cell? ⟨w.heap.size, 0, none⟩ = some (.int .i64 x.1) ∧ W.cell? ⟨w.heap.size, 1, none⟩ = some (.slice ub un uc)) w2); have hx2 := on hb1 z2) | (go_at_call 45; (with_reducible refine (maskVars_impl _ x l _ (rQ.mono h hx2)).mono ?_); rintro e w3 ⟨u2, rfl, o2, z3⟩; have sz3 := z3.size; obtain ⟨vb2, vn2, vc2, rfl⟩ := oI_form1 o2; replace o1 := o1.below z3 (by omega); have hS3 := (⟨(z3.cell (p := ⟨w.heap.size, 0, none⟩) (by simp only []; omega)).trans hS2.1, (z3.cell (p := ⟨w.heap.size, 1, none⟩) (by simp only []; omega)).trans hS2.2⟩ : (fun W => W.cell? ⟨w.heap.size, 0, none⟩ = some (.int .i64 x.1) ∧ W.cell? ⟨w.heap.size, 1, none⟩ = some (.slice ub un uc)) w3); have hx3 := on hx2 z3) | (go_at_call 96; (with_reducible refine (both_any _ _ (maskVars x k) (maskVars x l) _ (o1.rd reads_I) (o2.rd reads_I) (by omega)).mono ?_); rintro e w4 ⟨u3, rfl, o3, z4⟩; have sz4 := z4.size; obtain ⟨vb3, vn3, vc3, rfl⟩ := oI_form1 o3; replace o1 := o1.below z4 (by omega); replace o2 := o2.below z4 (by omega); have hS4 := (⟨(z4.cell (p := ⟨w.heap.size, 0, none⟩) (by simp only []; omega)).trans hS3.1, (z4.cell (p := ⟨w.heap.size, 1, none⟩) (by simp only []; omega)).trans hS3.2⟩ : (fun W => W.cell? ⟨w.heap.size, 0, none⟩ = some (.int .i64 x.1) ∧ W.cell? ⟨w.heap.size, 1, none⟩ = some (.slice ub un uc)) w4); have hx4 := on hx3 z4))
  replace z2 : Below w1.heap.size w1 w2 := z2
  replace z3 : Below w2.heap.size w2 w3 := z3
  replace z4 : Below w3.heap.size w3 w4 := z4
  clear hS2 hx2 hS3 hx3 hS4 hx4
  have s5 := z2.size
  have hb5 := on hb1 z2
  replace b_0 := (z2.cell (p := ⟨w.heap.size, 0, none⟩) (by simp only []; omega)).trans b_0
  replace b_1 := (z2.cell (p := ⟨w.heap.size, 1, none⟩) (by simp only []; omega)).trans b_1
  have s6 := z3.size
  have hb6 := on hb5 z3
  replace b_0 := (z3.cell (p := ⟨w.heap.size, 0, none⟩) (by simp only []; omega)).trans b_0
  replace b_1 := (z3.cell (p := ⟨w.heap.size, 1, none⟩) (by simp only []; omega)).trans b_1
  have s7 := z4.size
  have hb7 := on hb6 z4
  replace b_0 := (z4.cell (p := ⟨w.heap.size, 0, none⟩) (by simp only []; omega)).trans b_0
  replace b_1 := (z4.cell (p := ⟨w.heap.size, 1, none⟩) (by simp only []; omega)).trans b_1
  go_wp2_with fail
  go_ret
  exact ⟨_, rfl, o3.mono (by omega) (by omega), hb7⟩

set_option maxHeartbeats 2000000 in
theorem shared_spec (cs : List Value) (x : DQ) (k l : Int) (w : World) (h : rQ.rep w cs x) :
    Calls Try.prog 49 #[.agg cs.toArray, .int .i64 k, .int .i64 l] w fun e w' => ∃ u, e = .returned u ∧ Own oI w.heap.size w'.heap.size w' [u] (sharedVars x k l) ∧ Below w.heap.size w w' := by
  obtain ⟨ub, un, uc, rfl⟩ := rQ_form h
  have hb0 : Below w.heap.size w w := Below.refl _ _
  have hml := maskVars_len x k
  go_enter Try.func49, Try.ntmps49
  obtain ⟨w1, hw1⟩ : ∃ W, W = w.alloc (.cells #[.int .i64 x.1, .slice ub un uc] 41) := ⟨_, rfl⟩
  have z1 : Below w.heap.size w w1 := by rw [hw1]; exact (Below.refl _ _).alloc (Nat.le_refl _) _
  have s1 : w1.heap.size = w.heap.size + 1 := by rw [hw1]; simp
  have hb1 := on hb0 z1
  have b_0 : w1.cell? ⟨w.heap.size, 0, none⟩ = some (.int .i64 x.1) := by rw [hw1]; exact box_cell (Below.refl _ _) rfl
  have b_1 : w1.cell? ⟨w.heap.size, 1, none⟩ = some (.slice ub un uc) := by rw [hw1]; exact box_cell (Below.refl _ _) rfl
  have raw1_b_0 := b_0
  have raw1_b_1 := b_1
  rw [hw1] at raw1_b_0 raw1_b_1
  obtain ⟨w2, hw2⟩ : ∃ W, W = w1.alloc (.cells #[] 3) := ⟨_, rfl⟩
  have z2 : Below w1.heap.size w1 w2 := by rw [hw2]; exact (Below.refl _ _).alloc (Nat.le_refl _) _
  have s2 : w2.heap.size = w1.heap.size + 1 := by rw [hw2]; simp
  have hb2 := on hb1 z2
  replace b_0 := (z2.cell (p := ⟨w.heap.size, 0, none⟩) (by simp only []; omega)).trans b_0
  replace b_1 := (z2.cell (p := ⟨w.heap.size, 1, none⟩) (by simp only []; omega)).trans b_1
  have ho : ∀ S, Acc 3 O.int w1.heap.size S w2.heap.size w2 (.slice (some ⟨w.heap.size + 1, 0, none⟩) 0 0) [] := fun S => by rw [hw2]; exact Acc.empty (by omega) (by simp; omega)
  obtain ⟨xs, hxs⟩ : ∃ xs, xs = maskVars x k := ⟨_, rfl⟩
  obtain ⟨ys, hys⟩ : ∃ ys, ys = maskVars x l := ⟨_, rfl⟩
  have HR := Lib.hid (show both xs ys = sharedVars x k l by rw [hxs, hys]; rfl)
  have C1 := maskVars_spec [.int .i64 x.1, .slice ub un uc] x k
  have C2 := maskVars_spec [.int .i64 x.1, .slice ub un uc] x l
  rw [← hxs] at C1 hml
  rw [← hys] at C2
  clear hxs hys
  go_wp2_with fail
  rw [← hw1]
  rw [← hw2]
  clear hw2 hw1
  clear raw1_b_0 raw1_b_1
  refine (C1 _ (rQ.mono h hb2)).mono ?_
  rintro e w11 ⟨u1, rfl, o1, z11⟩
  obtain ⟨a1, n1, c1, rfl⟩ := oI_form1 o1
  have s3 := z11.size
  have hb3 := on hb2 z11
  replace b_0 := (z11.cell (p := ⟨w.heap.size, 0, none⟩) (by simp only []; omega)).trans b_0
  replace b_1 := (z11.cell (p := ⟨w.heap.size, 1, none⟩) (by simp only []; omega)).trans b_1
  replace ho := fun S => (ho S).below z11 (by omega)
  go_wp2_with fail
  refine (C2 _ (rQ.mono h hb3)).mono ?_
  rintro e w12 ⟨u2, rfl, o2, z12⟩
  obtain ⟨a2, n2, c2, rfl⟩ := oI_form1 o2
  have s4 := z12.size
  have hb4 := on hb3 z12
  replace b_0 := (z12.cell (p := ⟨w.heap.size, 0, none⟩) (by simp only []; omega)).trans b_0
  replace b_1 := (z12.cell (p := ⟨w.heap.size, 1, none⟩) (by simp only []; omega)).trans b_1
  replace ho := fun S => (ho S).below z12 (by omega)
  replace o1 := o1.below z12 (by omega)
  clear C1 C2
  have hl := (rI_ints (o1.rd reads_I)).len
  have hn := (rI_ints (o1.rd reads_I)).small
  go_wp2_with fail
  go_loopw [7, 10] (fun v i wr => ∃ (j : Nat), j ≤ n1 ∧ i = .int .i64 j ∧ Acc 3 O.int w1.heap.size w12.heap.size wr.heap.size wr v (both (xs.take j) ys) ∧ Turn w1.heap.size (w1.heap.size + 1) w12 wr) (fun _ i _ => n1 - (intOf i).toNat)
  case atStart => exact ⟨0, Nat.zero_le _, rfl, by rw [List.take_zero]; exact (ho _).wide (Nat.le_refl _) (by omega), turn_refl _ _ _⟩
  case round =>
    obtain ⟨j, hj, rfl, hacc, hdr⟩ := hrel
    have hlc := hdr
    replace o1 := o1.turn hdr (by omega)
    replace o2 := o2.turn hdr (by omega)
    have hi := rI_ints (o1.rd reads_I)
    have hi' := rI_ints (o2.rd reads_I)
    have s5 := hdr.size
    have hb5 := hb4.trans ((hdr.below (by omega)).mono (by omega))
    replace b_0 := (hdr.cell (p := ⟨w.heap.size, 0, none⟩) (by simp only []; omega) (by simp only []; omega)).trans b_0
    replace b_1 := (hdr.cell (p := ⟨w.heap.size, 1, none⟩) (by simp only []; omega) (by simp only []; omega)).trans b_1
    have hbl : (both (xs.take j) ys).length ≤ 4 := by have h1 := both_len (xs.take j) ys; have h2 : (xs.take j).length ≤ j := List.length_take_le _ _; omega
    by_cases hlt : j < n1
    · obtain ⟨b1, off, x, rfl, hc, hx, hx1, hx2⟩ := hi.get hlt
      have hcall := l7Has_any _ _ c2 _ x wr hi'
      obtain ⟨t, ht⟩ : ∃ t, t = has ys x := ⟨_, rfl⟩
      rw [← ht] at hcall
      have HC := Lib.hid hcall
      clear hcall
      cases t with
      | true =>
        have HB := Lib.hid (both_yes (show j < xs.length by omega) hx.out ht.symm)
        clear ht hi hl o1 o2 ho
        go_wp2_with (first
          | (go_at_call 73; refine (HC.out).mono ?_; rintro e w' ⟨rfl, rfl⟩)
          | (at_builtin; refine wpList_accI _ _ _ _ _ hacc hlc rfl (by omega) (Nat.le_refl _) ⟨by omega, by omega⟩ (by omega) rfl rfl rfl rfl rfl ?_; intro v' w1 hacc' ht' hsz'))
        rw [← HB.out] at hacc'
        go_roundw
        case rel => exact ⟨j + 1, by omega, by go_num, hacc', ht'⟩
        case measure => simp [intOf]; omega
      | false =>
        rw [← both_no (show j < xs.length by omega) hx.out ht.symm] at hacc
        have HO := Lib.hid hacc
        clear ht hi hl hacc o1 o2 ho
        go_wp2_with (go_at_call 73; refine (HC.out).mono ?_; rintro e w' ⟨rfl, rfl⟩)
        go_roundw
        case rel => exact ⟨j + 1, by omega, by go_num, HO.out, hlc⟩
        case measure => simp [intOf]; omega
    · obtain rfl : j = n1 := by omega
      obtain ⟨a', n', cap2, rfl⟩ := hacc.form3
      rw [both_end (by omega), HR.out] at hacc
      have HO := Lib.hid (hacc.own (B := w.heap.size) (by omega) (by omega) (Nat.le_refl _))
      clear hacc hi hi' hl o1 o2 ho
      go_wp2_with fail
      go_ret
      exact ⟨_, rfl, HO.out, hb5⟩

end Go.Proofs.Ytogblmfmmlbahaa
