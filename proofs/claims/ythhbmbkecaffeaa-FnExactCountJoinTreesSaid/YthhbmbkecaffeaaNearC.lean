/- Contracts: neighbors and connected masks. -/
import Derived.Test.YthhbmbkecaffeaaNearP
import Derived.Test.YthhbmbkecaffeaaMaskI
import Derived.Deep.RegionHeld3
namespace Go.Proofs.Ythhbmbkecaffeaa
open Go.RowKit
set_option linter.unusedVariables false
set_option linter.unusedSimpArgs false
set_option synthInstance.maxSize 2000
set_option synthInstance.maxHeartbeats 400000

set_option maxHeartbeats 2000000 in
theorem neighbors_any (cs : List Value) (x : DQ) (K n : Nat) (w : World) (h : rQ.rep w cs x) (hq : QOk x n) (hK : K < 16) :
    Calls Try.prog 103 #[.agg cs.toArray, .int .i64 K] w fun e w' => e = .returned (.int .i64 (near x K)) ∧ Below w.heap.size w w' := by
  obtain ⟨ub, un, uc, rfl, hi, g1⟩ := rQ_open h
  clear hi
  have t0 := rS_sl g1
  have hl := t0.len
  have hl4 := hq.len
  have hun : un ≤ 4 := by omega
  have HQ := Lib.hid hq
  have HB := Lib.hid (show near x K = nearFrom K (bitsOf x K) 0 0 (x.2.drop 0) by simp [near])
  clear hl4
  have hb0 : Below w.heap.size w w := Below.refl _ _
  go_enter Try.func103, Try.ntmps103
  obtain ⟨w1, hw1⟩ : ∃ W, W = w.alloc (.cells #[.int .i64 x.1, .slice ub un uc] 29) := ⟨_, rfl⟩
  have z1 : Below w.heap.size w w1 := by rw [hw1]; exact (Below.refl _ _).alloc (Nat.le_refl _) _
  have s1 : w1.heap.size = w.heap.size + 1 := by rw [hw1]; simp
  have hb1 := on hb0 z1
  have b_0 : w1.cell? ⟨w.heap.size, 0, none⟩ = some (.int .i64 x.1) := by rw [hw1]; exact box_cell (Below.refl _ _) rfl
  have b_1 : w1.cell? ⟨w.heap.size, 1, none⟩ = some (.slice ub un uc) := by rw [hw1]; exact box_cell (Below.refl _ _) rfl
  have raw1_b_0 := b_0
  have raw1_b_1 := b_1
  rw [hw1] at raw1_b_0 raw1_b_1
  go_wp2_with fail
  rw [← hw1]
  clear hw1
  clear raw1_b_0 raw1_b_1
  refine (variables_any _ x K n _ (rQ.mono h hb1) hq hK).mono ?_
  rintro e w9 ⟨u, rfl, ho, z9⟩
  obtain ⟨vb9, vn9, vc9, rfl⟩ := oI_form1 ho
  have s2 := z9.size
  have hb2 := on hb1 z9
  replace b_0 := (z9.cell (p := ⟨w.heap.size, 0, none⟩) (by simp only []; omega)).trans b_0
  replace b_1 := (z9.cell (p := ⟨w.heap.size, 1, none⟩) (by simp only []; omega)).trans b_1
  clear hq
  go_wp2_with fail
  go_loopw [6, 15] (fun s k wr => ∃ j m : Nat, j ≤ un ∧ m < 2 ^ un ∧ k = .int .i64 j ∧ s = .int .i64 m ∧ Hid (near x K = nearFrom K (bitsOf x K) m j (x.2.drop j)) ∧ Below w9.heap.size w9 wr) (fun _ k _ => un - (intOf k).toNat)
  case atStart => exact ⟨0, 0, Nat.zero_le _, Nat.two_pow_pos _, rfl, rfl, HB.out, Below.refl _ _⟩
  case round =>
    obtain ⟨j, m, hj, hm, rfl, rfl, hE, hdr⟩ := hrel
    obtain ⟨wo, rfl⟩ : ∃ W, W = wr := ⟨_, rfl⟩
    have hlc := hdr
    have s3 := hdr.size
    have hb3 := on hb2 hdr
    replace b_0 := (hdr.cell (p := ⟨w.heap.size, 0, none⟩) (by simp only []; omega)).trans b_0
    replace b_1 := (hdr.cell (p := ⟨w.heap.size, 1, none⟩) (by simp only []; omega)).trans b_1
    replace ho := ho.below hdr (by omega)
    have hm16 := pow_le16 hun
    by_cases hlt : j < un
    · obtain ⟨b1, o1, cs, y, rfl, hx, hr, hc⟩ := t0.at hlt
      obtain ⟨s, vs⟩ := y
      obtain ⟨vb, vn, vc, rfl, hs, g2⟩ := rA_open hr
      simp only at hs g2
      have e_lt : b1 < w.heap.size := cell_lt (hc 0 _ rfl)
      have e_0 : wo.cell? ⟨b1, o1 + j * 2, none⟩ = some (.string s) := (hb3.cell (p := ⟨b1, o1 + j * 2, none⟩) e_lt).trans (by have h9 := hc 0 _ rfl; rw [← Nat.add_assoc] at h9; exact h9)
      have e_1 : wo.cell? ⟨b1, o1 + j * 2 + 1, none⟩ = some (.slice vb vn vc) := (hb3.cell (p := ⟨b1, o1 + j * 2 + 1, none⟩) e_lt).trans (by have h9 := hc 1 _ rfl; rw [← Nat.add_assoc] at h9; exact h9)
      have HA := Lib.hid (hE.out.trans (nearFrom_at hx.out))
      have HX := Lib.hid (List.mem_of_getElem? hx.out)
      have HV := Lib.hid (both_pos HQ.out HX.out K)
      have HVL := Lib.hid (HQ.out.vlen _ HX.out)
      clear hc t0 hr hl hx hE HB
      simp only at HA HV HVL
      obtain ⟨w4, hw4⟩ : ∃ W, W = wo.alloc (.cells #[.string s, .slice vb vn vc] 80) := ⟨_, rfl⟩
      have z4 : Below wo.heap.size wo w4 := by rw [hw4]; exact (Below.refl _ _).alloc (Nat.le_refl _) _
      have s4 : w4.heap.size = wo.heap.size + 1 := by rw [hw4]; simp
      have hb4 := on hb3 z4
      have old4_b_0 := b_0
      have old4_b_1 := b_1
      have old4_e_0 := e_0
      have old4_e_1 := e_1
      replace b_0 := (z4.cell (p := ⟨w.heap.size, 0, none⟩) (by simp only []; omega)).trans b_0
      replace b_1 := (z4.cell (p := ⟨w.heap.size, 1, none⟩) (by simp only []; omega)).trans b_1
      replace ho := ho.below z4 (by omega)
      replace hlc := on hlc z4
      replace e_0 := (z4.cell (p := ⟨b1, o1 + j * 2, none⟩) (by simp only []; omega)).trans e_0
      replace e_1 := (z4.cell (p := ⟨b1, o1 + j * 2 + 1, none⟩) (by simp only []; omega)).trans e_1
      have p_0 : w4.cell? ⟨wo.heap.size, 0, none⟩ = some (.string s) := by rw [hw4]; exact box_cell (Below.refl _ _) rfl
      have p_1 : w4.cell? ⟨wo.heap.size, 1, none⟩ = some (.slice vb vn vc) := by rw [hw4]; exact box_cell (Below.refl _ _) rfl
      have raw4_b_0 := b_0
      have raw4_b_1 := b_1
      have raw4_e_0 := e_0
      have raw4_e_1 := e_1
      have raw4_p_0 := p_0
      have raw4_p_1 := p_1
      rw [hw4] at raw4_b_0 raw4_b_1 raw4_e_0 raw4_e_1 raw4_p_0 raw4_p_1
      have hbt := bit_test0 K j (by omega)
      cases hb : bitAt K j with
      | true =>
        rw [hb] at HA hbt
        replace HA : Hid (near x K = nearFrom K (bitsOf x K) m (j + 1) (x.2.drop (j + 1))) := Lib.hid (by rw [HA.out]; simp)
        simp only [Bool.not_true] at hbt
        clear hb
        go_wp2_with fail
        rw [← hw4]
        clear hw4
        clear old4_b_0 old4_b_1 old4_e_0 old4_e_1 raw4_b_0 raw4_b_1 raw4_e_0 raw4_e_1 raw4_p_0 raw4_p_1
        go_roundw
        case rel => exact ⟨j + 1, m, by omega, hm, by go_num, rfl, HA.out, hlc⟩
        case measure => simp [intOf]; omega
      | false =>
        rw [hb] at HA hbt
        simp only [Bool.not_false, Bool.true_and] at HA hbt
        clear hb
        go_wp2_with fail
        rw [← hw4]
        clear hw4
        clear old4_b_0 old4_b_1 old4_e_0 old4_e_1 raw4_b_0 raw4_b_1 raw4_e_0 raw4_e_1 raw4_p_0 raw4_p_1
        refine (both_any _ _ vs (varsOf x K) _ (rI.mono g2 hb4) (ho.rd reads_I) (by have := HVL.out; omega)).mono ?_
        rintro e w8 ⟨u, rfl, ho2, z8⟩
        obtain ⟨vb8, vn8, vc8, rfl⟩ := oI_form1 ho2
        have hv8 := (rI_ints (ho2.rd reads_I)).len
        have s5 := z8.size
        have hb5 := on hb4 z8
        replace b_0 := (z8.cell (p := ⟨w.heap.size, 0, none⟩) (by simp only []; omega)).trans b_0
        replace b_1 := (z8.cell (p := ⟨w.heap.size, 1, none⟩) (by simp only []; omega)).trans b_1
        replace ho := ho.below z8 (by omega)
        replace hlc := on hlc z8
        replace e_0 := (z8.cell (p := ⟨b1, o1 + j * 2, none⟩) (by simp only []; omega)).trans e_0
        replace e_1 := (z8.cell (p := ⟨b1, o1 + j * 2 + 1, none⟩) (by simp only []; omega)).trans e_1
        replace p_0 := (z8.cell (p := ⟨wo.heap.size, 0, none⟩) (by simp only []; omega)).trans p_0
        replace p_1 := (z8.cell (p := ⟨wo.heap.size, 1, none⟩) (by simp only []; omega)).trans p_1
        obtain ⟨t, ht⟩ : ∃ t, t = decide (vbits 0 vs &&& bitsOf x K ≠ 0) := ⟨_, rfl⟩
        have hd : decide (0 < vn8) = t := by rw [ht, ← HV.out, hv8]
        rw [← ht] at HA
        have HT := Lib.hid ht
        clear ht hv8 ho2
        cases t with
        | true =>
          replace HA : Hid (near x K = nearFrom K (bitsOf x K) (m ||| 2 ^ j) (j + 1) (x.2.drop (j + 1))) := Lib.hid (by rw [HA.out]; simp)
          have hmo := or_lt hm hlt
          go_wp2_with fail
          go_roundw
          case rel => exact ⟨j + 1, m ||| 2 ^ j, by omega, hmo, by go_num, by show Value.int _ _ = _; rw [or_pow (by omega) (by omega)], HA.out, hlc⟩
          case measure => simp [intOf]; omega
        | false =>
          replace HA : Hid (near x K = nearFrom K (bitsOf x K) m (j + 1) (x.2.drop (j + 1))) := Lib.hid (by rw [HA.out]; simp)
          go_wp2_with fail
          go_roundw
          case rel => exact ⟨j + 1, m, by omega, hm, by go_num, rfl, HA.out, hlc⟩
          case measure => simp [intOf]; omega
    · have HE := Lib.hid (hE.out.trans (nearFrom_end (by omega)))
      clear t0 hl hE HB ho
      go_wp2_with fail
      go_ret
      exact ⟨ret_int (by rw [HE.out]), hb3⟩

set_option maxHeartbeats 2000000 in
theorem l8Near_any (cs : List Value) (x : DQ) (K n : Nat) (w : World) (h : rQ.rep w cs x) (hq : QOk x n) (hK : K < 16) :
    Calls Try.prog 102 #[.agg cs.toArray, .int .i64 K] w fun e w' => e = .returned (.int .i64 (near x K)) ∧ Below w.heap.size w w' := by
  obtain ⟨ub, un, uc, rfl, hi, g1⟩ := rQ_open h
  clear hi
  have t0 := rS_sl g1
  have hl := t0.len
  have hl4 := hq.len
  have hun : un ≤ 4 := by omega
  have HQ := Lib.hid hq
  have HB := Lib.hid (show near x K = nearFrom K (bitsOf x K) 0 0 (x.2.drop 0) by simp [near])
  have hB16 : bitsOf x K < 16 := Nat.lt_of_lt_of_le (hq.bits_lt K) (pow_le16 hq.le)
  clear hl4
  have hb0 : Below w.heap.size w w := Below.refl _ _
  go_enter Try.func102, Try.ntmps102
  obtain ⟨w1, hw1⟩ : ∃ W, W = w.alloc (.cells #[.int .i64 x.1, .slice ub un uc] 29) := ⟨_, rfl⟩
  have z1 : Below w.heap.size w w1 := by rw [hw1]; exact (Below.refl _ _).alloc (Nat.le_refl _) _
  have s1 : w1.heap.size = w.heap.size + 1 := by rw [hw1]; simp
  have hb1 := on hb0 z1
  have b_0 : w1.cell? ⟨w.heap.size, 0, none⟩ = some (.int .i64 x.1) := by rw [hw1]; exact box_cell (Below.refl _ _) rfl
  have b_1 : w1.cell? ⟨w.heap.size, 1, none⟩ = some (.slice ub un uc) := by rw [hw1]; exact box_cell (Below.refl _ _) rfl
  have raw1_b_0 := b_0
  have raw1_b_1 := b_1
  rw [hw1] at raw1_b_0 raw1_b_1
  go_wp2_with fail
  rw [← hw1]
  clear hw1
  clear raw1_b_0 raw1_b_1
  refine (l7Bits_any _ x K n _ (rQ.mono h hb1) hq hK).mono ?_
  rintro e w2 ⟨rfl, z2⟩
  have s3 := z2.size
  have hb3 := on hb1 z2
  replace b_0 := (z2.cell (p := ⟨w.heap.size, 0, none⟩) (by simp only []; omega)).trans b_0
  replace b_1 := (z2.cell (p := ⟨w.heap.size, 1, none⟩) (by simp only []; omega)).trans b_1
  clear hq
  obtain ⟨B, hB⟩ : ∃ B, B = bitsOf x K := ⟨_, rfl⟩
  rw [← hB] at HB hB16 ⊢
  clear hB
  go_wp2_with fail
  go_loopw [5, 7] (fun s k wr => ∃ j m : Nat, j ≤ un ∧ m < 2 ^ un ∧ k = .int .i64 j ∧ s = .int .i64 m ∧ Hid (near x K = nearFrom K B m j (x.2.drop j)) ∧ Below w2.heap.size w2 wr) (fun _ k _ => un - (intOf k).toNat)
  case atStart => exact ⟨0, 0, Nat.zero_le _, Nat.two_pow_pos _, rfl, rfl, HB.out, Below.refl _ _⟩
  case round =>
    obtain ⟨j, m, hj, hm, rfl, rfl, hE, hdr⟩ := hrel
    obtain ⟨wo, rfl⟩ : ∃ W, W = wr := ⟨_, rfl⟩
    have hlc := hdr
    have s4 := hdr.size
    have hb4 := on hb3 hdr
    replace b_0 := (hdr.cell (p := ⟨w.heap.size, 0, none⟩) (by simp only []; omega)).trans b_0
    replace b_1 := (hdr.cell (p := ⟨w.heap.size, 1, none⟩) (by simp only []; omega)).trans b_1
    have hm16 := pow_le16 hun
    by_cases hlt : j < un
    · obtain ⟨y, hy⟩ : ∃ y, x.2[j]? = some y := ⟨_, List.getElem?_eq_getElem (by omega)⟩
      have HA := Lib.hid (hE.out.trans (nearFrom_at hy))
      have HP := Lib.hid (bitsOf_pow hy)
      have hP16 : bitsOf x (2 ^ j) < 16 := Nat.lt_of_lt_of_le (HQ.out.bits_lt _) (pow_le16 HQ.out.le)
      clear t0 hl hE HB hy
      have hbt := bit_test0 K j (by omega)
      cases hb : bitAt K j with
      | true =>
        rw [hb] at HA hbt
        replace HA : Hid (near x K = nearFrom K B m (j + 1) (x.2.drop (j + 1))) := Lib.hid (by rw [HA.out]; simp)
        simp only [Bool.not_true] at hbt
        clear hb
        go_wp2_with fail
        go_quiet (fail)
        go_wp2_with fail
        go_roundw
        case rel => exact ⟨j + 1, m, by omega, hm, by go_num, rfl, HA.out, hlc.trans (Drew.below ⟨_, rfl⟩ _)⟩
        case measure => simp [intOf]; omega
      | false =>
        rw [hb] at HA hbt
        simp only [Bool.not_false, Bool.true_and] at HA hbt
        rw [← HP.out] at HA
        clear hb HP
        have h2j : 2 ^ j < 16 := Nat.lt_of_lt_of_le (Nat.pow_lt_pow_right (by decide) hlt) hm16
        have hw1 := wrap_pow (show j ≤ 16 by omega)
        obtain ⟨J, hJ⟩ : ∃ J, J = 2 ^ j := ⟨_, rfl⟩
        obtain ⟨C, hC⟩ : ∃ C, C = bitsOf x (2 ^ j) := ⟨_, rfl⟩
        have hJ16 : J < 16 := by rw [hJ]; exact h2j
        have hcall := fun W (hW : rQ.rep W [.int .i64 x.1, .slice ub un uc] x) => l7Bits_any _ x J n W hW HQ.out hJ16
        rw [← hC] at HA hP16
        rw [← hJ] at hC hw1
        clear h2j
        have hw2 := hw1
        rw [← IntWalk.i64_left] at hw2
        rw [← hC] at hcall
        have hba := bits_and_nat C B (by omega) (by omega)
        obtain ⟨t, ht⟩ : ∃ t, t = decide (C &&& B ≠ 0) := ⟨_, rfl⟩
        have hne : (((C &&& B : Nat) : Int) != 0) = t := by
          rw [ht, Bool.eq_iff_iff]
          simp
        rw [← ht] at HA
        have HC := Lib.hid hcall
        have HJ := Lib.hid hJ
        clear hcall ht hC hJ
        go_wp2_with fail
        go_region_held3 (fun W => W.cell? ⟨w.heap.size, 0, none⟩ = some (.int .i64 x.1) ∧ W.cell? ⟨w.heap.size, 1, none⟩ = some (.slice ub un uc)) (first | exact ⟨b_0, b_1⟩ | assumption) (first | (go_at_call 125; (with_reducible refine (HC.out _ (rQ.mono h hb4.drew)).mono ?_); rintro e w5 ⟨rfl, z5⟩; replace z5 : Below wo.heap.size wo w5 := on (Below.refl _ _).drew z5; have sz5 := z5.size; have hS5 := (⟨(z5.cell (p := ⟨w.heap.size, 0, none⟩) (by simp only []; omega)).trans b_0, (z5.cell (p := ⟨w.heap.size, 1, none⟩) (by simp only []; omega)).trans b_1⟩ : (fun W => W.cell? ⟨w.heap.size, 0, none⟩ = some (.int .i64 x.1) ∧ W.cell? ⟨w.heap.size, 1, none⟩ = some (.slice ub un uc)) w5); have hx5 := on hb4 z5))
        replace z5 : Below wo.heap.size wo w5 := z5
        clear hS5 hx5
        have s6 := z5.size
        have hb6 := on hb4 z5
        replace b_0 := (z5.cell (p := ⟨w.heap.size, 0, none⟩) (by simp only []; omega)).trans b_0
        replace b_1 := (z5.cell (p := ⟨w.heap.size, 1, none⟩) (by simp only []; omega)).trans b_1
        replace hlc := on hlc z5
        clear hw2
        cases t with
        | true =>
          replace HA : Hid (near x K = nearFrom K B (m ||| 2 ^ j) (j + 1) (x.2.drop (j + 1))) := Lib.hid (by rw [HA.out]; simp)
          have hmo := or_lt hm hlt
          clear hba hne
          go_wp2_with fail
          go_roundw
          case rel => exact ⟨j + 1, m ||| 2 ^ j, by omega, hmo, by go_num, by show Value.int _ _ = _; rw [← hw1, or_pow (by omega) (by omega)], HA.out, hlc⟩
          case measure => simp [intOf]; omega
        | false =>
          replace HA : Hid (near x K = nearFrom K B m (j + 1) (x.2.drop (j + 1))) := Lib.hid (by rw [HA.out]; simp)
          clear hba hne hw1
          go_wp2_with fail
          go_roundw
          case rel => exact ⟨j + 1, m, by omega, hm, by go_num, rfl, HA.out, hlc⟩
          case measure => simp [intOf]; omega
    · have HE := Lib.hid (hE.out.trans (nearFrom_end (by omega)))
      clear t0 hl hE HB
      go_wp2_with fail
      go_ret
      exact ⟨ret_int (by rw [HE.out]), hb4⟩

end Go.Proofs.Ythhbmbkecaffeaa
