/- Contracts: the bound from maximum degrees. -/
import Derived.Test.YtnemkajkidgfjaaSeq2
namespace Go.Proofs.Ytnemkajkidgfjaa
open Go.RowKit
set_option linter.unusedVariables false
set_option linter.unusedSimpArgs false

/-- The bound of a pair from its maximum degrees. -/
def maxDegBound (a b : List Int) : Int := if (isDeg a && isDeg b) && (!a.isEmpty && !b.isEmpty) then min (a.sum * b.getD 0 0) (b.sum * a.getD 0 0) else 0

theorem maxDegBound_yes {a b : List Int} (h1 : isDeg a = true) (h2 : isDeg b = true) (h3 : 0 < a.length) (h4 : 0 < b.length) : maxDegBound a b = min (a.sum * b.getD 0 0) (b.sum * a.getD 0 0) := by
  unfold maxDegBound
  have e1 : a.isEmpty = false := by cases a <;> simp_all
  have e2 : b.isEmpty = false := by cases b <;> simp_all
  rw [h1, h2, e1, e2]; rfl
theorem maxDegBound_no {a b : List Int} (h : ¬ (isDeg a = true ∧ isDeg b = true ∧ 0 < a.length ∧ 0 < b.length)) : maxDegBound a b = 0 := by
  unfold maxDegBound
  rw [if_neg]
  simp only [Bool.and_eq_true, Bool.not_eq_true', List.isEmpty_eq_false_iff, ne_eq]
  rintro ⟨⟨h1, h2⟩, h3, h4⟩
  exact h ⟨h1, h2, List.length_pos_iff.2 h3, List.length_pos_iff.2 h4⟩
theorem sum_rng {xs : List Int} (h : isDeg xs = true) : 0 ≤ xs.sum ∧ xs.sum ≤ 8 := by
  have := isDeg_small h xs.length
  rwa [List.take_of_length_le (Nat.le_refl _)] at this

set_option maxHeartbeats 400000 in
theorem maxDegBound_impl (a b : Option Addr) (n m cap cap' : Nat) (xs ys : List Int) (w : World) (h : Ints w a n xs) (h' : Ints w b m ys) :
    Calls Try.prog 34 #[.slice a n cap, .slice b m cap'] w fun e w' => e = .returned (.int .i64 (maxDegBound xs ys)) ∧ Drew w w' := by
  have hl := h.len
  have hl' := h'.len
  by_cases hd : isDeg xs = true ∧ isDeg ys = true ∧ 0 < n ∧ 0 < m
  · obtain ⟨hd1, hd2, hn0, hm0⟩ := hd
    have HT := Lib.hid (maxDegBound_yes hd1 hd2 (by omega) (by omega))
    have hsx := isDeg_small hd1
    have hsy := isDeg_small hd2
    obtain ⟨s1, hs1⟩ : ∃ s, s = xs.sum := ⟨_, rfl⟩
    obtain ⟨s2, hs2⟩ : ∃ s, s = ys.sum := ⟨_, rfl⟩
    have r1 := sum_rng hd1
    have r2 := sum_rng hd2
    rw [← hs1] at r1
    rw [← hs2] at r2
    have c1 : ∀ W, Ints W a n xs → Calls Try.prog 53 #[.slice a n cap] W fun e w' => e = .returned (.int .i64 s1) ∧ W = w' := fun W hW => by rw [hs1]; exact sum_any _ _ _ _ _ hW hsx
    have c2 : ∀ W, Ints W b m ys → Calls Try.prog 53 #[.slice b m cap'] W fun e w' => e = .returned (.int .i64 s2) ∧ W = w' := fun W hW => by rw [hs2]; exact sum_any _ _ _ _ _ hW hsy
    have C1 := Lib.hid c1
    have C2 := Lib.hid c2
    obtain ⟨b1, o1, x1, rfl, hc1, hx1, _, _⟩ := h.get hn0
    obtain ⟨b2, o2, x2, rfl, hc2, hx2, _, _⟩ := h'.get hm0
    have hm1 := isDeg_mem hd1 x1 (by rw [← hx1.out]; exact getD_mem (by omega))
    have hm2 := isDeg_mem hd2 x2 (by rw [← hx2.out]; exact getD_mem (by omega))
    have HE : Hid (maxDegBound xs ys = min (s1 * x2) (s2 * x1)) := by rw [Hid, HT.out, hx1.out, hx2.out, hs1, hs2]
    have e1 : 0 ≤ s1 * x2 := Int.mul_nonneg (by omega) (by omega)
    have e2 : s1 * x2 ≤ 8 * 8 := Int.mul_le_mul r1.2 hm2.2 (by omega) (by omega)
    have e3 : 0 ≤ s2 * x1 := Int.mul_nonneg (by omega) (by omega)
    have e4 : s2 * x1 ≤ 8 * 8 := Int.mul_le_mul r2.2 hm1.2 (by omega) (by omega)
    have g1 : IntKind.i64.wrap (s1 * x2) = s1 * x2 := IntWalk.i64_in _ (by omega)
    have g2 : IntKind.i64.wrap (s2 * x1) = s2 * x1 := IntWalk.i64_in _ (by omega)
    have z1 : ((n : Int) == 0) = false := by rw [beq_eq_false_iff_ne]; omega
    have z2 : ((m : Int) == 0) = false := by rw [beq_eq_false_iff_ne]; omega
    clear hs1 hs2 c1 c2 hl hl'
    simp only [Nat.add_zero] at hc1 hc2
    go_enter Try.func34, Try.ntmps34
    go_wp2_with fail
    refine (isDeg_impl _ _ _ _ _ h).mono ?_
    rintro e w' ⟨rfl, rfl⟩
    go_wp2_with fail
    refine (isDeg_impl _ _ _ _ _ h').mono ?_
    rintro e w' ⟨rfl, rfl⟩
    go_wp2_with fail
    go_quiet ((go_at_call 53; first | with_reducible exact quiet_same (C1.out _ (h.drewN _)) | with_reducible exact quiet_same (C2.out _ (h'.drewN _))))
    go_wp2
    all_goals
      go_ret
      exact ⟨ret_int (by rw [HE.out]; omega), _, rfl⟩
  · have HE := Lib.hid (show 0 = maxDegBound xs ys by rw [maxDegBound_no (by rw [hl, hl']; exact hd)])
    clear hl hl'
    by_cases hn0 : 0 < n
    · have z1 : ((n : Int) == 0) = false := by rw [beq_eq_false_iff_ne]; omega
      by_cases hm0 : 0 < m
      · have z2 : ((m : Int) == 0) = false := by rw [beq_eq_false_iff_ne]; omega
        by_cases hd1 : isDeg xs = true
        · have hd2 : isDeg ys = false := by simpa [hd1, hn0, hm0] using hd
          clear hd
          go_enter Try.func34, Try.ntmps34
          go_wp2_with fail
          refine (isDeg_impl _ _ _ _ _ h).mono ?_
          rintro e w' ⟨rfl, rfl⟩
          go_wp2_with fail
          refine (isDeg_impl _ _ _ _ _ h').mono ?_
          rintro e w' ⟨rfl, rfl⟩
          go_wp2_with fail
          go_ret
          exact ⟨ret_int HE.out, Drew.refl _⟩
        · replace hd1 : isDeg xs = false := by simpa using hd1
          clear hd
          go_enter Try.func34, Try.ntmps34
          go_wp2_with fail
          refine (isDeg_impl _ _ _ _ _ h).mono ?_
          rintro e w' ⟨rfl, rfl⟩
          go_wp2_with fail
          go_ret
          exact ⟨ret_int HE.out, Drew.refl _⟩
      · have z2 : ((m : Int) == 0) = true := by rw [beq_iff_eq]; omega
        clear hd
        go_enter Try.func34, Try.ntmps34
        go_wp2_with fail
        go_ret
        exact ⟨ret_int HE.out, Drew.refl _⟩
    · have z1 : ((n : Int) == 0) = true := by rw [beq_iff_eq]; omega
      clear hd
      go_enter Try.func34, Try.ntmps34
      go_wp2_with fail
      go_ret
      exact ⟨ret_int HE.out, Drew.refl _⟩

set_option maxHeartbeats 400000 in
theorem maxDegBound_spec (a b : Option Addr) (n m cap cap' : Nat) (xs ys : List Int) (w : World) (h : Ints w a n xs) (h' : Ints w b m ys) :
    Calls Try.prog 33 #[.slice a n cap, .slice b m cap'] w fun e w' => e = .returned (.int .i64 (maxDegBound xs ys)) ∧ Drew w w' := by
  have hl := h.len
  have hl' := h'.len
  by_cases hd : isDeg xs = true ∧ isDeg ys = true ∧ 0 < n ∧ 0 < m
  · obtain ⟨hd1, hd2, hn0, hm0⟩ := hd
    have HT := Lib.hid (maxDegBound_yes hd1 hd2 (by omega) (by omega))
    have q1 : seqTotal xs = xs.sum := by simp [seqTotal, hd1]
    have q2 : seqTotal ys = ys.sum := by simp [seqTotal, hd2]
    obtain ⟨s1, hs1⟩ : ∃ s, s = xs.sum := ⟨_, rfl⟩
    obtain ⟨s2, hs2⟩ : ∃ s, s = ys.sum := ⟨_, rfl⟩
    have r1 := sum_rng hd1
    have r2 := sum_rng hd2
    rw [← hs1] at r1
    rw [← hs2] at r2
    have c1 : ∀ W, Ints W a n xs → Calls Try.prog 29 #[.slice a n cap] W fun e w' => e = .returned (.int .i64 s1) ∧ Drew W w' := fun W hW => by rw [hs1, ← q1]; exact seqTotal_spec _ _ _ _ _ hW
    have c2 : ∀ W, Ints W b m ys → Calls Try.prog 29 #[.slice b m cap'] W fun e w' => e = .returned (.int .i64 s2) ∧ Drew W w' := fun W hW => by rw [hs2, ← q2]; exact seqTotal_spec _ _ _ _ _ hW
    have C1 := Lib.hid c1
    have C2 := Lib.hid c2
    obtain ⟨b1, o1, x1, rfl, hc1, hx1, _, _⟩ := h.get hn0
    obtain ⟨b2, o2, x2, rfl, hc2, hx2, _, _⟩ := h'.get hm0
    have hm1 := isDeg_mem hd1 x1 (by rw [← hx1.out]; exact getD_mem (by omega))
    have hm2 := isDeg_mem hd2 x2 (by rw [← hx2.out]; exact getD_mem (by omega))
    have HE : Hid (maxDegBound xs ys = min (s1 * x2) (s2 * x1)) := by rw [Hid, HT.out, hx1.out, hx2.out, hs1, hs2]
    have e1 : 0 ≤ s1 * x2 := Int.mul_nonneg (by omega) (by omega)
    have e2 : s1 * x2 ≤ 8 * 8 := Int.mul_le_mul r1.2 hm2.2 (by omega) (by omega)
    have e3 : 0 ≤ s2 * x1 := Int.mul_nonneg (by omega) (by omega)
    have e4 : s2 * x1 ≤ 8 * 8 := Int.mul_le_mul r2.2 hm1.2 (by omega) (by omega)
    have g1 : IntKind.i64.wrap (s1 * x2) = s1 * x2 := IntWalk.i64_in _ (by omega)
    have g2 : IntKind.i64.wrap (s2 * x1) = s2 * x1 := IntWalk.i64_in _ (by omega)
    have z1 : ((n : Int) == 0) = false := by rw [beq_eq_false_iff_ne]; omega
    have z2 : ((m : Int) == 0) = false := by rw [beq_eq_false_iff_ne]; omega
    clear hs1 hs2 c1 c2 hl hl' q1 q2
    simp only [Nat.add_zero] at hc1 hc2
    go_enter Try.func33, Try.ntmps33
    go_wp2_with fail
    refine (isDeg_spec _ _ _ _ _ h).mono ?_
    rintro e w1 ⟨rfl, d1⟩
    go_wp2_with fail
    refine (isDeg_spec _ _ _ _ _ (h'.drew d1)).mono ?_
    rintro e w2 ⟨rfl, d2⟩
    replace d2 := d1.trans d2
    replace h := h.drew d2
    replace h' := h'.drew d2
    rw [← d2.cell] at hc1 hc2
    clear d1
    go_wp2_with fail
    go_quiet ((go_at_call 29; first | with_reducible exact quiet_drew (C1.out _ (h.drewN _)) | with_reducible exact quiet_drew (C2.out _ (h'.drewN _))))
    go_wp2
    all_goals
      go_ret
      exact ⟨ret_int (by rw [HE.out]; omega), d2.step _⟩
  · have HE := Lib.hid (show 0 = maxDegBound xs ys by rw [maxDegBound_no (by rw [hl, hl']; exact hd)])
    clear hl hl'
    by_cases hd1 : isDeg xs = true
    · by_cases hd2 : isDeg ys = true
      · by_cases hn0 : 0 < n
        · have z1 : ((n : Int) == 0) = false := by rw [beq_eq_false_iff_ne]; omega
          have z2 : ((m : Int) == 0) = true := by rw [beq_iff_eq]; have : ¬ 0 < m := by simpa [hd1, hd2, hn0] using hd
                                                  omega
          clear hd
          go_enter Try.func33, Try.ntmps33
          go_wp2_with fail
          refine (isDeg_spec _ _ _ _ _ h).mono ?_
          rintro e w1 ⟨rfl, d1⟩
          go_wp2_with fail
          refine (isDeg_spec _ _ _ _ _ (h'.drew d1)).mono ?_
          rintro e w2 ⟨rfl, d2⟩
          go_wp2_with fail
          go_ret
          exact ⟨ret_int HE.out, d1.trans d2⟩
        · have z1 : ((n : Int) == 0) = true := by rw [beq_iff_eq]; omega
          clear hd
          go_enter Try.func33, Try.ntmps33
          go_wp2_with fail
          refine (isDeg_spec _ _ _ _ _ h).mono ?_
          rintro e w1 ⟨rfl, d1⟩
          go_wp2_with fail
          refine (isDeg_spec _ _ _ _ _ (h'.drew d1)).mono ?_
          rintro e w2 ⟨rfl, d2⟩
          go_wp2_with fail
          go_ret
          exact ⟨ret_int HE.out, d1.trans d2⟩
      · replace hd2 : isDeg ys = false := by simpa using hd2
        clear hd
        go_enter Try.func33, Try.ntmps33
        go_wp2_with fail
        refine (isDeg_spec _ _ _ _ _ h).mono ?_
        rintro e w1 ⟨rfl, d1⟩
        go_wp2_with fail
        refine (isDeg_spec _ _ _ _ _ (h'.drew d1)).mono ?_
        rintro e w2 ⟨rfl, d2⟩
        go_wp2_with fail
        go_ret
        exact ⟨ret_int HE.out, d1.trans d2⟩
    · replace hd1 : isDeg xs = false := by simpa using hd1
      clear hd
      go_enter Try.func33, Try.ntmps33
      go_wp2_with fail
      refine (isDeg_spec _ _ _ _ _ h).mono ?_
      rintro e w1 ⟨rfl, d1⟩
      go_wp2_with fail
      go_ret
      exact ⟨ret_int HE.out, d1⟩

end Go.Proofs.Ytnemkajkidgfjaa
