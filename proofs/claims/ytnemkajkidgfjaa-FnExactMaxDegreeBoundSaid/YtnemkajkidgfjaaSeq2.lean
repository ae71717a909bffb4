/- Contracts: comparing degree sequences, and the bounds of a pair of them. -/
import Derived.Test.YtnemkajkidgfjaaSeq
namespace Go.Proofs.Ytnemkajkidgfjaa
open Go.RowKit
set_option linter.unusedVariables false
set_option linter.unusedSimpArgs false

/-- Whether each total of the k greatest degrees of a is no less than that of b. -/
def dominates (a b : List Int) : Bool := (isDeg a && isDeg b) && (List.range 8).all fun i => decide (topDeg b ((i : Int) + 1) ≤ topDeg a ((i : Int) + 1))

theorem topDeg_rng (xs : List Int) (k : Int) : 0 ≤ topDeg xs k ∧ topDeg xs k ≤ 8 := by
  unfold topDeg
  by_cases hd : isDeg xs = true
  · rw [if_pos hd]; exact isDeg_small hd _
  · rw [if_neg hd]; omega

theorem dom_no {xs ys : List Int} {j : Nat} (hj : j < 8) (h : topDeg xs ((j : Int) + 1) < topDeg ys ((j : Int) + 1)) : dominates xs ys = false := by
  unfold dominates
  rw [Bool.and_eq_false_iff]
  right
  rw [List.all_eq_false]
  exact ⟨j, by simpa using hj, by simpa using h⟩
theorem dom_yes {xs ys : List Int} (h1 : isDeg xs = true) (h2 : isDeg ys = true) (h : ∀ i : Nat, i < 8 → topDeg ys ((i : Int) + 1) ≤ topDeg xs ((i : Int) + 1)) : dominates xs ys = true := by
  unfold dominates
  rw [h1, h2]
  simp only [Bool.and_self, Bool.true_and, List.all_eq_true, List.mem_range, decide_eq_true_eq]
  exact h

set_option maxHeartbeats 400000 in
theorem dominates_impl (a b : Option Addr) (n m cap cap' : Nat) (xs ys : List Int) (w : World) (h : Ints w a n xs) (h' : Ints w b m ys) (hc : n ≤ cap ∧ cap ≤ 9223372036854775807) (hc' : m ≤ cap' ∧ cap' ≤ 9223372036854775807) :
    Calls Try.prog 38 #[.slice a n cap, .slice b m cap'] w fun e w' => e = .returned (.bool (dominates xs ys)) ∧ w = w' := by
  by_cases hd : isDeg xs = true ∧ isDeg ys = true
  · obtain ⟨hd1, hd2⟩ := hd
    go_enter Try.func38, Try.ntmps38
    go_wp2_with fail
    refine (isDeg_impl _ _ _ _ _ h).mono ?_
    rintro e w' ⟨rfl, rfl⟩
    go_wp2_with fail
    refine (isDeg_impl _ _ _ _ _ h').mono ?_
    rintro e w' ⟨rfl, rfl⟩
    go_wp2_with fail
    go_loop [5] (fun i => ∃ j : Nat, j ≤ 8 ∧ i = .int .i64 (j + 1) ∧ Hid (∀ i : Nat, i < j → topDeg ys ((i : Int) + 1) ≤ topDeg xs ((i : Int) + 1))) (fun i => 9 - (intOf i).toNat)
    case atStart => exact ⟨0, by omega, rfl, fun i hi => by omega⟩
    case round =>
      obtain ⟨j, hj, rfl, hE⟩ := hrel
      by_cases hlt : j < 8
      · obtain ⟨p, hp⟩ : ∃ p, p = topDeg xs ((j : Int) + 1) := ⟨_, rfl⟩
        obtain ⟨q, hq⟩ : ∃ q, q = topDeg ys ((j : Int) + 1) := ⟨_, rfl⟩
        have Hp := Lib.hid hp
        have Hq := Lib.hid hq
        clear hp hq
        have hjr : I64 ((j : Int) + 1) := ⟨by omega, by omega⟩
        by_cases hpq : p < q
        · have HE := Lib.hid (dom_no hlt (show topDeg xs ((j : Int) + 1) < topDeg ys ((j : Int) + 1) by rw [← Hp.out, ← Hq.out]; exact hpq))
          go_wp2_with fail
          refine (topDeg_impl _ _ _ _ _ _ h hc.1 hc.2 hjr).mono ?_
          rintro e w' ⟨rfl, rfl⟩
          rw [← Hp.out]
          go_wp2_with fail
          refine (topDeg_impl _ _ _ _ _ _ h' hc'.1 hc'.2 hjr).mono ?_
          rintro e w' ⟨rfl, rfl⟩
          rw [← Hq.out]
          go_wp2_with fail
          go_ret
          exact ⟨ret_bool HE.out.symm, rfl⟩
        · have HE : Hid (∀ i : Nat, i < j + 1 → topDeg ys ((i : Int) + 1) ≤ topDeg xs ((i : Int) + 1)) := by
            intro i hi
            by_cases hij : i < j
            · exact hE.out i hij
            · obtain rfl : i = j := by omega
              rw [← Hp.out, ← Hq.out]; omega
          go_wp2_with fail
          refine (topDeg_impl _ _ _ _ _ _ h hc.1 hc.2 hjr).mono ?_
          rintro e w' ⟨rfl, rfl⟩
          rw [← Hp.out]
          go_wp2_with fail
          refine (topDeg_impl _ _ _ _ _ _ h' hc'.1 hc'.2 hjr).mono ?_
          rintro e w' ⟨rfl, rfl⟩
          rw [← Hq.out]
          go_wp2_with fail
          go_round
          case rel => exact ⟨j + 1, by omega, by go_num, HE⟩
          case measure => simp [intOf]; omega
      · obtain rfl : j = 8 := by omega
        have HE := Lib.hid (dom_yes hd1 hd2 hE.out)
        go_wp2
        go_ret
        exact ⟨ret_bool HE.out.symm, rfl⟩
  · have HE := Lib.hid (show dominates xs ys = false by
      unfold dominates
      rw [show (isDeg xs && isDeg ys) = false by rw [← Bool.not_eq_true, Bool.and_eq_true]; exact hd, Bool.false_and])
    by_cases hd1 : isDeg xs = true
    · have hd2 : isDeg ys = false := by simpa [hd1] using hd
      clear hd
      go_enter Try.func38, Try.ntmps38
      go_wp2_with fail
      refine (isDeg_impl _ _ _ _ _ h).mono ?_
      rintro e w' ⟨rfl, rfl⟩
      go_wp2_with fail
      refine (isDeg_impl _ _ _ _ _ h').mono ?_
      rintro e w' ⟨rfl, rfl⟩
      go_wp2_with fail
      go_ret
      exact ⟨ret_bool HE.out.symm, rfl⟩
    · replace hd1 : isDeg xs = false := by simpa using hd1
      clear hd
      go_enter Try.func38, Try.ntmps38
      go_wp2_with fail
      refine (isDeg_impl _ _ _ _ _ h).mono ?_
      rintro e w' ⟨rfl, rfl⟩
      go_wp2_with fail
      go_ret
      exact ⟨ret_bool HE.out.symm, rfl⟩

set_option maxHeartbeats 400000 in
theorem dominates_spec (a b : Option Addr) (n m cap cap' : Nat) (xs ys : List Int) (w : World) (h : Ints w a n xs) (h' : Ints w b m ys) :
    Calls Try.prog 37 #[.slice a n cap, .slice b m cap'] w fun e w' => e = .returned (.bool (dominates xs ys)) ∧ Drew w w' := by
  by_cases hd : isDeg xs = true ∧ isDeg ys = true
  · obtain ⟨hd1, hd2⟩ := hd
    go_enter Try.func37, Try.ntmps37
    go_wp2_with fail
    refine (isDeg_spec _ _ _ _ _ h).mono ?_
    rintro e w1 ⟨rfl, d1⟩
    go_wp2_with fail
    refine (isDeg_spec _ _ _ _ _ (h'.drew d1)).mono ?_
    rintro e w2 ⟨rfl, d2⟩
    replace d2 := d1.trans d2
    clear d1
    go_wp2_with fail
    go_loopw [5] (fun i wr => ∃ j : Nat, j ≤ 8 ∧ i = .int .i64 (j + 1) ∧ Hid (∀ i : Nat, i < j → topDeg ys ((i : Int) + 1) ≤ topDeg xs ((i : Int) + 1)) ∧ Drew w wr) (fun i _ => 9 - (intOf i).toNat)
    case atStart => exact ⟨0, by omega, rfl, fun i hi => by omega, d2⟩
    case round =>
      obtain ⟨j, hj, rfl, hE, hdr⟩ := hrel
      clear d2
      by_cases hlt : j < 8
      · obtain ⟨p, hp⟩ : ∃ p, p = topDeg xs ((j : Int) + 1) := ⟨_, rfl⟩
        obtain ⟨q, hq⟩ : ∃ q, q = topDeg ys ((j : Int) + 1) := ⟨_, rfl⟩
        have Hp := Lib.hid hp
        have Hq := Lib.hid hq
        clear hp hq
        have hjr : I64 ((j : Int) + 1) := ⟨by omega, by omega⟩
        by_cases hpq : p < q
        · have HE := Lib.hid (dom_no hlt (show topDeg xs ((j : Int) + 1) < topDeg ys ((j : Int) + 1) by rw [← Hp.out, ← Hq.out]; exact hpq))
          go_wp2_with fail
          refine (topDeg_spec _ _ _ _ _ _ (h.drew hdr) hjr).mono ?_
          rintro e w3 ⟨rfl, d3⟩
          replace d3 := hdr.trans d3
          rw [← Hp.out]
          go_wp2_with fail
          refine (topDeg_spec _ _ _ _ _ _ (h'.drew d3) hjr).mono ?_
          rintro e w4 ⟨rfl, d4⟩
          replace d4 := d3.trans d4
          rw [← Hq.out]
          go_wp2_with fail
          go_ret
          exact ⟨ret_bool HE.out.symm, d4⟩
        · have HE : Hid (∀ i : Nat, i < j + 1 → topDeg ys ((i : Int) + 1) ≤ topDeg xs ((i : Int) + 1)) := by
            intro i hi
            by_cases hij : i < j
            · exact hE.out i hij
            · obtain rfl : i = j := by omega
              rw [← Hp.out, ← Hq.out]; omega
          go_wp2_with fail
          refine (topDeg_spec _ _ _ _ _ _ (h.drew hdr) hjr).mono ?_
          rintro e w3 ⟨rfl, d3⟩
          replace d3 := hdr.trans d3
          rw [← Hp.out]
          go_wp2_with fail
          refine (topDeg_spec _ _ _ _ _ _ (h'.drew d3) hjr).mono ?_
          rintro e w4 ⟨rfl, d4⟩
          replace d4 := d3.trans d4
          rw [← Hq.out]
          go_wp2_with fail
          go_roundw
          case rel => exact ⟨j + 1, by omega, by go_num, HE, d4⟩
          case measure => simp [intOf]; omega
      · obtain rfl : j = 8 := by omega
        have HE := Lib.hid (dom_yes hd1 hd2 hE.out)
        go_wp2
        go_ret
        exact ⟨ret_bool HE.out.symm, hdr⟩
  · have HE := Lib.hid (show dominates xs ys = false by
      unfold dominates
      rw [show (isDeg xs && isDeg ys) = false by rw [← Bool.not_eq_true, Bool.and_eq_true]; exact hd, Bool.false_and])
    by_cases hd1 : isDeg xs = true
    · have hd2 : isDeg ys = false := by simpa [hd1] using hd
      clear hd
      go_enter Try.func37, Try.ntmps37
      go_wp2_with fail
      refine (isDeg_spec _ _ _ _ _ h).mono ?_
      rintro e w1 ⟨rfl, d1⟩
      go_wp2_with fail
      refine (isDeg_spec _ _ _ _ _ (h'.drew d1)).mono ?_
      rintro e w2 ⟨rfl, d2⟩
      go_wp2_with fail
      go_ret
      exact ⟨ret_bool HE.out.symm, d1.trans d2⟩
    · replace hd1 : isDeg xs = false := by simpa using hd1
      clear hd
      go_enter Try.func37, Try.ntmps37
      go_wp2_with fail
      refine (isDeg_spec _ _ _ _ _ h).mono ?_
      rintro e w1 ⟨rfl, d1⟩
      go_wp2_with fail
      go_ret
      exact ⟨ret_bool HE.out.symm, d1⟩

/-- Products of the degrees at equal places. -/
def pairSum : List Int → List Int → Int
  | x :: xs, y :: ys => x * y + pairSum xs ys
  | _, _ => 0
def pairBound (a b : List Int) : Int := if isDeg a && isDeg b then pairSum a b else 0
theorem pairSum_rng : ∀ (xs ys : List Int), (∀ x ∈ xs, 1 ≤ x ∧ x ≤ 8) → (∀ y ∈ ys, 1 ≤ y ∧ y ≤ 8) → 0 ≤ pairSum xs ys ∧ pairSum xs ys ≤ 64 * xs.length
  | [], _, _, _ => by simp [pairSum]
  | _ :: _, [], _, _ => by simp [pairSum]; omega
  | x :: xs, y :: ys, h1, h2 => by
    have ih := pairSum_rng xs ys (fun z hz => h1 z (List.mem_cons_of_mem _ hz)) (fun z hz => h2 z (List.mem_cons_of_mem _ hz))
    have hx := h1 x (List.mem_cons_self ..)
    have hy := h2 y (List.mem_cons_self ..)
    have e1 : 0 ≤ x * y := Int.mul_nonneg (by omega) (by omega)
    have e2 : x * y ≤ 8 * 8 := Int.mul_le_mul hx.2 hy.2 (by omega) (by omega)
    simp only [pairSum, List.length_cons]
    omega
theorem pairSum_end (xs ys : List Int) (j : Nat) (h : xs.length ≤ j ∨ ys.length ≤ j) : pairSum (xs.drop j) (ys.drop j) = 0 := by
  rcases h with h | h
  · rw [List.drop_of_length_le h]; simp [pairSum]
  · rw [List.drop_of_length_le h]; cases xs.drop j <;> simp [pairSum]

set_option maxHeartbeats 400000 in
theorem pairBound_impl (a b : Option Addr) (n m cap cap' : Nat) (xs ys : List Int) (w : World) (h : Ints w a n xs) (h' : Ints w b m ys) :
    Calls Try.prog 28 #[.slice a n cap, .slice b m cap'] w fun e w' => e = .returned (.int .i64 (pairBound xs ys)) ∧ Drew w w' := by
  have hn := h.small
  have hm := h'.small
  by_cases hd : isDeg xs = true ∧ isDeg ys = true
  · obtain ⟨hd1, hd2⟩ := hd
    have hl1 := isDeg_len hd1
    have hr := pairSum_rng xs ys (isDeg_mem hd1) (isDeg_mem hd2)
    have HT := Lib.hid (show pairBound xs ys = pairSum xs ys by simp [pairBound, hd1, hd2])
    have hl := h.len
    have hl' := h'.len
    have hn8 : n ≤ 8 := by omega
    go_enter Try.func28, Try.ntmps28
    go_wp2_with fail
    refine (isDeg_impl _ _ _ _ _ h).mono ?_
    rintro e w' ⟨rfl, rfl⟩
    go_wp2_with fail
    refine (isDeg_impl _ _ _ _ _ h').mono ?_
    rintro e w' ⟨rfl, rfl⟩
    go_wp2_with fail
    go_loopw [5, 6] (fun s i wr => ∃ (j : Nat) (y : Int), j ≤ n ∧ i = .int .i64 j ∧ s = .int .i64 y ∧ 0 ≤ y ∧ y ≤ 64 * j ∧ Hid (pairBound xs ys = y + pairSum (xs.drop j) (ys.drop j)) ∧ Drew w wr) (fun _ i _ => n - (intOf i).toNat)
    case atStart => exact ⟨0, 0, Nat.zero_le _, rfl, rfl, by omega, by omega, by rw [Hid, HT.out]; simp, Drew.refl _⟩
    case round =>
      obtain ⟨j, y, hj, rfl, rfl, hy0, hy1, hE, hdr⟩ := hrel
      have k1 := h.drew hdr
      have k2 := h'.drew hdr
      by_cases hlt : j < n ∧ j < m
      · obtain ⟨hlt1, hlt2⟩ := hlt
        obtain ⟨b1, o1, x1, rfl, hc1, hx1, _, _⟩ := k1.get hlt1
        obtain ⟨b2, o2, x2, rfl, hc2, hx2, _, _⟩ := k2.get hlt2
        have hm1 := isDeg_mem hd1 x1 (by rw [← hx1.out]; exact getD_mem (by omega))
        have hm2 := isDeg_mem hd2 x2 (by rw [← hx2.out]; exact getD_mem (by omega))
        have HE : Hid (pairBound xs ys = y + x1 * x2 + pairSum (xs.drop (j + 1)) (ys.drop (j + 1))) := by
          rw [Hid, hE.out, k1.drop hlt1 hx1, k2.drop hlt2 hx2, pairSum]; omega
        have e1 : 0 ≤ x1 * x2 := Int.mul_nonneg (by omega) (by omega)
        have e2 : x1 * x2 ≤ 8 * 8 := Int.mul_le_mul hm1.2 hm2.2 (by omega) (by omega)
        have g1 : IntKind.i64.wrap (x1 * x2) = x1 * x2 := IntWalk.i64_in _ (by omega)
        have g2 : IntKind.i64.wrap (y + x1 * x2) = y + x1 * x2 := IntWalk.i64_in _ (by omega)
        clear hl hl' hr
        go_wp2
        go_quiet (fail)
        clear g1 g2
        go_wp2
        go_roundw
        case rel => exact ⟨j + 1, y + x1 * x2, by omega, by go_num, rfl, by omega, by omega, HE, hdr.step _⟩
        case measure => simp [intOf]; omega
      · have HE := Lib.hid (show y = pairBound xs ys by rw [hE.out, pairSum_end _ _ _ (by omega)]; omega)
        by_cases hlt1 : j < n
        · have hlt2 : ¬ j < m := by omega
          clear h h' hl hl' hr hlt
          go_wp2
          go_ret
          exact ⟨ret_int HE.out, hdr⟩
        · clear h h' hl hl' hr hlt
          go_wp2
          go_ret
          exact ⟨ret_int HE.out, hdr⟩
  · have HE := Lib.hid (show 0 = pairBound xs ys by
      unfold pairBound
      rw [show (isDeg xs && isDeg ys) = false by rw [← Bool.not_eq_true, Bool.and_eq_true]; exact hd]; rfl)
    by_cases hd1 : isDeg xs = true
    · have hd2 : isDeg ys = false := by simpa [hd1] using hd
      clear hd
      go_enter Try.func28, Try.ntmps28
      go_wp2_with fail
      refine (isDeg_impl _ _ _ _ _ h).mono ?_
      rintro e w' ⟨rfl, rfl⟩
      go_wp2_with fail
      refine (isDeg_impl _ _ _ _ _ h').mono ?_
      rintro e w' ⟨rfl, rfl⟩
      go_wp2_with fail
      go_ret
      exact ⟨ret_int HE.out, Drew.refl _⟩
    · replace hd1 : isDeg xs = false := by simpa using hd1
      clear hd
      go_enter Try.func28, Try.ntmps28
      go_wp2_with fail
      refine (isDeg_impl _ _ _ _ _ h).mono ?_
      rintro e w' ⟨rfl, rfl⟩
      go_wp2_with fail
      go_ret
      exact ⟨ret_int HE.out, Drew.refl _⟩

set_option maxHeartbeats 400000 in
theorem pairBound_spec (a b : Option Addr) (n m cap cap' : Nat) (xs ys : List Int) (w : World) (h : Ints w a n xs) (h' : Ints w b m ys) :
    Calls Try.prog 27 #[.slice a n cap, .slice b m cap'] w fun e w' => e = .returned (.int .i64 (pairBound xs ys)) ∧ Drew w w' := by
  have hn := h.small
  have hm := h'.small
  by_cases hd : isDeg xs = true ∧ isDeg ys = true
  · obtain ⟨hd1, hd2⟩ := hd
    have hl1 := isDeg_len hd1
    have hr := pairSum_rng xs ys (isDeg_mem hd1) (isDeg_mem hd2)
    have HT := Lib.hid (show pairBound xs ys = pairSum xs ys by simp [pairBound, hd1, hd2])
    have hl := h.len
    have hl' := h'.len
    have hn8 : n ≤ 8 := by omega
    go_enter Try.func27, Try.ntmps27
    go_wp2_with fail
    go_loopw [5, 6] (fun s i wr => ∃ (j : Nat) (y : Int), j ≤ n ∧ i = .int .i64 j ∧ s = .int .i64 y ∧ 0 ≤ y ∧ y ≤ 64 * j ∧ Hid (pairBound xs ys = y + pairSum (xs.drop j) (ys.drop j)) ∧ Drew w wr) (fun _ i _ => n - (intOf i).toNat)
    case atStart => exact ⟨0, 0, Nat.zero_le _, rfl, rfl, by omega, by omega, by rw [Hid, HT.out]; simp, Drew.refl _⟩
    case round =>
      obtain ⟨j, y, hj, rfl, rfl, hy0, hy1, hE, hdr⟩ := hrel
      have k1 := h.drew hdr
      have k2 := h'.drew hdr
      by_cases hlt : j < n ∧ j < m
      · obtain ⟨hlt1, hlt2⟩ := hlt
        obtain ⟨b1, o1, x1, rfl, hc1, hx1, _, _⟩ := k1.get hlt1
        obtain ⟨b2, o2, x2, rfl, hc2, hx2, _, _⟩ := k2.get hlt2
        have hm1 := isDeg_mem hd1 x1 (by rw [← hx1.out]; exact getD_mem (by omega))
        have hm2 := isDeg_mem hd2 x2 (by rw [← hx2.out]; exact getD_mem (by omega))
        have HE : Hid (pairBound xs ys = y + x1 * x2 + pairSum (xs.drop (j + 1)) (ys.drop (j + 1))) := by
          rw [Hid, hE.out, k1.drop hlt1 hx1, k2.drop hlt2 hx2, pairSum]; omega
        have e1 : 0 ≤ x1 * x2 := Int.mul_nonneg (by omega) (by omega)
        have e2 : x1 * x2 ≤ 8 * 8 := Int.mul_le_mul hm1.2 hm2.2 (by omega) (by omega)
        have g1 : IntKind.i64.wrap (x1 * x2) = x1 * x2 := IntWalk.i64_in _ (by omega)
        have g2 : IntKind.i64.wrap (y + x1 * x2) = y + x1 * x2 := IntWalk.i64_in _ (by omega)
        clear hl hl' hr
        go_wp2_with fail
        refine (isDeg_spec _ _ _ _ _ k1).mono ?_
        rintro e w3 ⟨rfl, ⟨q1, rfl⟩⟩
        go_wp2_with fail
        refine (isDeg_spec _ _ _ _ _ (k2.drew ⟨q1, rfl⟩)).mono ?_
        rintro e w4 ⟨rfl, ⟨q2, rfl⟩⟩
        go_wp2_with fail
        go_quiet (fail)
        clear g1 g2
        go_wp2
        go_roundw
        case rel => exact ⟨j + 1, y + x1 * x2, by omega, by go_num, rfl, by omega, by omega, HE, hdr.step _⟩
        case measure => simp [intOf]; omega
      · have HE := Lib.hid (show y = pairBound xs ys by rw [hE.out, pairSum_end _ _ _ (by omega)]; omega)
        by_cases hlt1 : j < n
        · have hlt2 : ¬ j < m := by omega
          clear h h' hl hl' hr hlt
          go_wp2
          go_ret
          exact ⟨ret_int HE.out, hdr⟩
        · clear h h' hl hl' hr hlt
          go_wp2
          go_ret
          exact ⟨ret_int HE.out, hdr⟩
  · have HE := Lib.hid (show 0 = pairBound xs ys by
      unfold pairBound
      rw [show (isDeg xs && isDeg ys) = false by rw [← Bool.not_eq_true, Bool.and_eq_true]; exact hd]; rfl)
    go_enter Try.func27, Try.ntmps27
    go_wp2_with fail
    go_loopw [5, 6] (fun s i wr => i = .int .i64 0 ∧ s = .int .i64 0 ∧ wr = w) (fun _ _ _ => 0)
    case atStart => exact ⟨rfl, rfl, rfl⟩
    case round =>
      obtain ⟨rfl, rfl, rfl⟩ := hrel
      by_cases hlt : 0 < n
      · by_cases hlt2 : 0 < m
        · by_cases hd1 : isDeg xs = true
          · have hd2 : isDeg ys = false := by simpa [hd1] using hd
            clear hd
            go_wp2_with fail
            refine (isDeg_spec _ _ _ _ _ h).mono ?_
            rintro e w1 ⟨rfl, d1⟩
            go_wp2_with fail
            refine (isDeg_spec _ _ _ _ _ (h'.drew d1)).mono ?_
            rintro e w2 ⟨rfl, d2⟩
            go_wp2_with fail
            go_ret
            exact ⟨ret_int HE.out, d1.trans d2⟩
          · replace hd1 : isDeg xs = false := by simpa using hd1
            clear hd
            go_wp2_with fail
            refine (isDeg_spec _ _ _ _ _ h).mono ?_
            rintro e w1 ⟨rfl, d1⟩
            go_wp2_with fail
            go_ret
            exact ⟨ret_int HE.out, d1⟩
        · clear hd
          go_wp2
          go_ret
          exact ⟨ret_int HE.out, Drew.refl _⟩
      · clear hd
        go_wp2
        go_ret
        exact ⟨ret_int HE.out, Drew.refl _⟩

end Go.Proofs.Ytnemkajkidgfjaa
