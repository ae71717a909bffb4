/- Contracts: connected masks. -/
import Derived.Test.YthhbmbkecaffeaaNearC
import Derived.Test.YthhbmbkecaffeaaAcc
namespace Go.Proofs.Ythhbmbkecaffeaa
open Go.RowKit
set_option linter.unusedVariables false
set_option linter.unusedSimpArgs false
set_option synthInstance.maxSize 2000
set_option synthInstance.maxHeartbeats 400000

theorem low_int : ∀ K, K < 16 → bits .and .i64 ((K : Nat) : Int) (-((K : Nat) : Int)) = ((lowB K : Nat) : Int) := by decide +kernel
theorem low_zero : ∀ K : Nat, K < 16 → K ≠ 0 → ((K : Int) == 0) = false := by
  intro K _ h; rw [beq_eq_false_iff_ne]; omega

set_option maxHeartbeats 2000000 in
theorem connected_any (cs : List Value) (x : DQ) (K n : Nat) (w : World) (h : rQ.rep w cs x) (hq : QOk x n) (hK : K < 2 ^ x.2.length) :
    Calls Try.prog 62 #[.agg cs.toArray, .int .i64 K] w fun e w' => e = .returned (.bool (conn x K)) ∧ Below w.heap.size w w' := by
  obtain ⟨ub, un, uc, rfl⟩ := rQ_form h
  have hb0 : Below w.heap.size w w := Below.refl _ _
  have hl4 := hq.len
  have hK16 : K < 16 := Nat.lt_of_lt_of_le hK (pow_le16 hl4)
  have HQ := Lib.hid hq
  have HK := Lib.hid hK
  clear hq hK
  by_cases h0 : K = 0
  · subst h0
    have HE := Lib.hid (show conn x 0 = false by simp [conn])
    go_enter Try.func62, Try.ntmps62
    obtain ⟨w1, hw1⟩ : ∃ W, W = w.alloc (.cells #[.int .i64 x.1, .slice ub un uc] 29) := ⟨_, rfl⟩
    have z1 : Below w.heap.size w w1 := by rw [hw1]; exact (Below.refl _ _).alloc (Nat.le_refl _) _
    have s1 : w1.heap.size = w.heap.size + 1 := by rw [hw1]; simp
    have hb1 := on hb0 z1
    have b_0 : w1.cell? ⟨w.heap.size, 0, none⟩ = some (.int .i64 x.1) := by rw [hw1]; exact box_cell (Below.refl _ _) rfl
    have b_1 : w1.cell? ⟨w.heap.size, 1, none⟩ = some (.slice ub un uc) := by rw [hw1]; exact box_cell (Below.refl _ _) rfl
    have raw1_b_0 := b_0
    have raw1_b_1 := b_1
    rw [hw1] at raw1_b_0 raw1_b_1
    go_wp2_with fail
    go_ret
    exact ⟨ret_bool HE.out.symm, by first | exact hb1 | (rw [hw1] at hb1; exact hb1)⟩
  have HC := Lib.hid (show conn x K = joined x K by simp [conn, h0])
  have hz := low_zero K hK16 h0
  have hlow := low_int K hK16
  obtain ⟨l1, l2, l3⟩ := low_facts K hK16
  have l4 := l3 h0
  obtain ⟨L, hL⟩ : ∃ L, L = lowB K := ⟨_, rfl⟩
  rw [← hL] at hlow l1 l2 l4
  have HJ := Lib.hid (show joined x K = decide (iterM x K x.2.length L = K) by rw [joined, hL])
  have L1 := Lib.hid l1
  have L4 := Lib.hid l4
  clear h0 l1 l3 l4 hL
  have hlp := HQ.out.lpos
  go_enter Try.func62, Try.ntmps62
  obtain ⟨w2, hw2⟩ : ∃ W, W = w.alloc (.cells #[.int .i64 x.1, .slice ub un uc] 29) := ⟨_, rfl⟩
  have z2 : Below w.heap.size w w2 := by rw [hw2]; exact (Below.refl _ _).alloc (Nat.le_refl _) _
  have s2 : w2.heap.size = w.heap.size + 1 := by rw [hw2]; simp
  have hb2 := on hb0 z2
  have b_0 : w2.cell? ⟨w.heap.size, 0, none⟩ = some (.int .i64 x.1) := by rw [hw2]; exact box_cell (Below.refl _ _) rfl
  have b_1 : w2.cell? ⟨w.heap.size, 1, none⟩ = some (.slice ub un uc) := by rw [hw2]; exact box_cell (Below.refl _ _) rfl
  have raw2_b_0 := b_0
  have raw2_b_1 := b_1
  rw [hw2] at raw2_b_0 raw2_b_1
  go_wp2_with fail
  rw [← hw2]
  clear hw2
  clear raw2_b_0 raw2_b_1
  clear hlow
  go_loopw [5, 6] (fun s _ wr => ∃ g i : Nat, g < 16 ∧ i + 1 ≤ x.2.length ∧ s = .int .i64 g ∧ Hid (g ||| K = K ∧ i + 1 ≤ pc g) ∧ Hid (iterM x K x.2.length L = iterM x K (x.2.length - i) g) ∧ Below w2.heap.size w2 wr) (fun s _ _ => 16 - (intOf s).toNat)
  case atStart => exact ⟨L, 0, l2, hlp, rfl, Lib.hid ⟨L1.out, by rw [L4.out]; exact Nat.le_refl _⟩, rfl, Below.refl _ _⟩
  case round =>
    obtain ⟨g, i, hg, hi, rfl, hP, hE, hdr⟩ := hrel
    have hlc := hdr
    have s3 := hdr.size
    have hb3 := on hb2 hdr
    replace b_0 := (hdr.cell (p := ⟨w.heap.size, 0, none⟩) (by simp only []; omega)).trans b_0
    replace b_1 := (hdr.cell (p := ⟨w.heap.size, 1, none⟩) (by simp only []; omega)).trans b_1
    go_wp2_with fail
    refine (neighbors_any _ x g n _ (rQ.mono h hb3) HQ.out hg).mono ?_
    rintro e w4 ⟨rfl, z4⟩
    have s5 := z4.size
    have hb5 := on hb3 z4
    replace b_0 := (z4.cell (p := ⟨w.heap.size, 0, none⟩) (by simp only []; omega)).trans b_0
    replace b_1 := (z4.cell (p := ⟨w.heap.size, 1, none⟩) (by simp only []; omega)).trans b_1
    replace hlc := on hlc z4
    obtain ⟨N, hN⟩ : ∃ N, N = near x g := ⟨_, rfl⟩
    rw [← hN]
    have hN16 : N < 16 := by rw [hN]; exact Nat.lt_of_lt_of_le (near_lt x g) (pow_le16 hl4)
    have hS : stepM x K g = g ||| (N &&& K) := by rw [hN]; rfl
    have hS16 : stepM x K g < 16 := stepM_lt hl4 hg
    have ha := bits_and_nat N K (by omega) (by omega)
    have hNK : N &&& K < 16 := Nat.lt_of_le_of_lt Nat.and_le_left hN16
    have ho := bits_or_nat g (N &&& K) (by omega) (by omega)
    rw [← hS] at ho
    obtain ⟨S, hSS⟩ : ∃ S, S = stepM x K g := ⟨_, rfl⟩
    rw [← hSS] at ho hS16
    have HS := Lib.hid hSS
    clear hS hN hSS hNK
    by_cases hst : S = g
    · have HE := Lib.hid (show decide ((g : Int) = (K : Int)) = conn x K by
        rw [HC.out, HJ.out, hE.out, iterM_fix (HS.out.symm.trans hst)]
        rw [Bool.eq_iff_iff]; simp only [decide_eq_true_eq]; omega)
      rw [hst] at ho
      clear hst
      go_wp2_with fail
      go_ret
      exact ⟨ret_bool (by rw [← HE.out]; rfl), hb5⟩
    · have hroom := step_room hl4 hg HK.out hP.out.1 hP.out.2 (fun e => hst (HS.out.trans e))
      rw [← HS.out] at hroom
      have HP2 : Hid (S ||| K = K ∧ (i + 1) + 1 ≤ pc S) := Lib.hid ⟨by rw [HS.out]; exact stepM_sub hl4 hg hK16 hP.out.1, by omega⟩
      have HE2 : Hid (iterM x K x.2.length L = iterM x K (x.2.length - (i + 1)) S) := Lib.hid (by
        rw [hE.out, show x.2.length - i = (x.2.length - (i + 1)) + 1 by omega, iterM, ← HS.out])
      have hr2 := hroom.2
      have hgS : g < S := by
        have h1 : g ≤ S := by rw [HS.out]; exact Nat.left_le_or
        omega
      have hne : ((S : Int) == (g : Int)) = false := by rw [beq_eq_false_iff_ne]; omega
      clear hroom hst
      go_wp2_with fail
      go_roundw
      case rel => exact ⟨S, i + 1, hS16, by omega, rfl, HP2, HE2, hlc⟩
      case measure => simp [intOf]; omega

set_option maxHeartbeats 2000000 in
theorem joined_any (cs : List Value) (x : DQ) (K n : Nat) (w : World) (h : rQ.rep w cs x) (hq : QOk x n) (hK : K < 2 ^ x.2.length) :
    Calls Try.prog 61 #[.agg cs.toArray, .int .i64 K] w fun e w' => e = .returned (.bool (joined x K)) ∧ Below w.heap.size w w' := by
  obtain ⟨ub, un, uc, rfl, hi, g1⟩ := rQ_open h
  have hl := (rS_sl g1).len
  clear hi g1
  have hb0 : Below w.heap.size w w := Below.refl _ _
  have hl4 := hq.len
  have hK16 : K < 16 := Nat.lt_of_lt_of_le hK (pow_le16 hl4)
  have HQ := Lib.hid hq
  clear hq hK
  have hlow := low_int K hK16
  obtain ⟨l1, l2, l3⟩ := low_facts K hK16
  obtain ⟨L, hL⟩ : ∃ L, L = lowB K := ⟨_, rfl⟩
  rw [← hL] at hlow l2
  have HJ := Lib.hid (show joined x K = decide (iterM x K un L = K) by rw [joined, hL, hl])
  have hun : un ≤ 4 := by omega
  clear l1 l3 hL hl
  go_enter Try.func61, Try.ntmps61
  obtain ⟨w1, hw1⟩ : ∃ W, W = w.alloc (.cells #[.int .i64 x.1, .slice ub un uc] 29) := ⟨_, rfl⟩
  have z1 : Below w.heap.size w w1 := by rw [hw1]; exact (Below.refl _ _).alloc (Nat.le_refl _) _
  have s1 : w1.heap.size = w.heap.size + 1 := by rw [hw1]; simp
  have hb1 := on hb0 z1
  have b_0 : w1.cell? ⟨w.heap.size, 0, none⟩ = some (.int .i64 x.1) := by rw [hw1]; exact box_cell (Below.refl _ _) rfl
  have b_1 : w1.cell? ⟨w.heap.size, 1, none⟩ = some (.slice ub un uc) := by rw [hw1]; exact box_cell (Below.refl _ _) rfl
  have raw1_b_0 := b_0
  have raw1_b_1 := b_1
  rw [hw1] at raw1_b_0 raw1_b_1
  go_wp2_with fail
  rw [← hw1]
  clear hw1
  clear raw1_b_0 raw1_b_1
  clear hlow
  go_loopw [5, 6] (fun s k wr => ∃ g i : Nat, g < 16 ∧ i ≤ un ∧ k = .int .i64 i ∧ s = .int .i64 g ∧ Hid (iterM x K un L = iterM x K (un - i) g) ∧ Below w1.heap.size w1 wr) (fun _ k _ => un - (intOf k).toNat)
  case atStart => exact ⟨L, 0, l2, Nat.zero_le _, rfl, rfl, rfl, Below.refl _ _⟩
  case round =>
    obtain ⟨g, i, hg, hi, rfl, rfl, hE, hdr⟩ := hrel
    have hlc := hdr
    have s2 := hdr.size
    have hb2 := on hb1 hdr
    replace b_0 := (hdr.cell (p := ⟨w.heap.size, 0, none⟩) (by simp only []; omega)).trans b_0
    replace b_1 := (hdr.cell (p := ⟨w.heap.size, 1, none⟩) (by simp only []; omega)).trans b_1
    by_cases hlt : i < un
    · go_wp2_with fail
      refine (l8Near_any _ x g n _ (rQ.mono h hb2) HQ.out hg).mono ?_
      rintro e w3 ⟨rfl, z3⟩
      have s4 := z3.size
      have hb4 := on hb2 z3
      replace b_0 := (z3.cell (p := ⟨w.heap.size, 0, none⟩) (by simp only []; omega)).trans b_0
      replace b_1 := (z3.cell (p := ⟨w.heap.size, 1, none⟩) (by simp only []; omega)).trans b_1
      replace hlc := on hlc z3
      obtain ⟨N, hN⟩ : ∃ N, N = near x g := ⟨_, rfl⟩
      rw [← hN]
      have hN16 : N < 16 := by rw [hN]; exact Nat.lt_of_lt_of_le (near_lt x g) (pow_le16 hl4)
      have hS : stepM x K g = g ||| (N &&& K) := by rw [hN]; rfl
      have hS16 : stepM x K g < 16 := stepM_lt hl4 hg
      have ha := bits_and_nat N K (by omega) (by omega)
      have hNK : N &&& K < 16 := Nat.lt_of_le_of_lt Nat.and_le_left hN16
      have ho := bits_or_nat g (N &&& K) (by omega) (by omega)
      rw [← hS] at ho
      obtain ⟨S, hSS⟩ : ∃ S, S = stepM x K g := ⟨_, rfl⟩
      rw [← hSS] at ho hS16
      have HE2 : Hid (iterM x K un L = iterM x K (un - (i + 1)) S) := Lib.hid (by
        rw [hE.out, show un - i = (un - (i + 1)) + 1 by omega, iterM, ← hSS])
      clear hS hN hSS hNK
      go_wp2_with fail
      go_roundw
      case rel => exact ⟨S, i + 1, hS16, by omega, by go_num, rfl, HE2, hlc⟩
      case measure => simp [intOf]; omega
    · have HE := Lib.hid (show decide ((g : Int) = (K : Int)) = joined x K by
        rw [HJ.out, hE.out, show un - i = 0 by omega]
        show _ = decide (g = K)
        rw [Bool.eq_iff_iff]; simp only [decide_eq_true_eq]; omega)
      go_wp2_with fail
      go_ret
      exact ⟨ret_bool (by rw [← HE.out]; rfl), hb2⟩

end Go.Proofs.Ythhbmbkecaffeaa
