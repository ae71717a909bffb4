/- Contracts: totals, top degrees and bounds of degree sequences; the plain law of each. -/
import Derived.Test.YtnemkajkidgfjaaDeg
namespace Go.Proofs.Ytnemkajkidgfjaa
open Go.RowKit
set_option linter.unusedVariables false
set_option linter.unusedSimpArgs false

/-- Every prefix adds up to at most 8, and to no less than nought. -/
def Small (xs : List Int) : Prop := ∀ j, 0 ≤ (xs.take j).sum ∧ (xs.take j).sum ≤ 8

theorem degFrom_facts : ∀ (xs : List Int) (left prev : Int), 0 ≤ left → degFrom left prev xs = true → (∀ j, 0 ≤ (xs.take j).sum ∧ (xs.take j).sum ≤ left) ∧ (xs.length : Int) ≤ left ∧ ∀ x ∈ xs, 1 ≤ x ∧ x ≤ left := by
  intro xs
  induction xs with
  | nil => intro left prev h _; simp; omega
  | cons d t ih =>
    intro left prev h hd
    simp only [degFrom, Bool.and_eq_true, betw, decide_eq_true_eq] at hd
    obtain ⟨⟨⟨h1, h2⟩, _⟩, h4⟩ := hd
    obtain ⟨i1, i2, i3⟩ := ih (left - d) d (by omega) h4
    refine ⟨fun j => ?_, by simp; omega, ?_⟩
    · cases j with
      | zero => simp; omega
      | succ j => have := i1 j; simp; omega
    · intro x hx
      rcases List.mem_cons.1 hx with rfl | hx
      · exact ⟨h1, h2⟩
      · have := i3 x hx; omega
theorem isDeg_small {xs : List Int} (h : isDeg xs = true) : Small xs := (degFrom_facts xs 8 8 (by omega) h).1
theorem isDeg_len {xs : List Int} (h : isDeg xs = true) : xs.length ≤ 8 := by have := (degFrom_facts xs 8 8 (by omega) h).2.1; omega
theorem isDeg_mem {xs : List Int} (h : isDeg xs = true) : ∀ x ∈ xs, 1 ≤ x ∧ x ≤ 8 := (degFrom_facts xs 8 8 (by omega) h).2.2
theorem Small.take {xs : List Int} (h : Small xs) (k : Nat) : Small (xs.take k) := by
  intro j; rw [List.take_take]; exact h _
theorem getD_mem {xs : List Int} {k : Nat} (h : k < xs.length) : xs.getD k 0 ∈ xs := by
  rw [List.getD_eq_getElem?_getD, List.getElem?_eq_getElem h]; exact List.getElem_mem h
theorem sum_snoc (xs : List Int) (k : Nat) (x : Int) (h : k < xs.length) (hx : xs.getD k 0 = x) : (xs.take (k + 1)).sum = (xs.take k).sum + x := by
  rw [take_snoc xs k h, hx]; simp

set_option maxHeartbeats 400000 in
theorem sum_any (a : Option Addr) (n cap : Nat) (xs : List Int) (w : World) (h : Ints w a n xs) (hs : Small xs) :
    Calls Try.prog 53 #[.slice a n cap] w fun e w' => e = .returned (.int .i64 xs.sum) ∧ w = w' := by
  have hn := h.small
  have hl := h.len
  go_enter Try.func53, Try.ntmps53
  go_wp2
  go_loop [3, 5, 8] (fun s _ k => ∃ (j : Nat) (y : Int), j ≤ n ∧ k = .int .i64 j ∧ s = .int .i64 y ∧ Hid (y = (xs.take j).sum)) (fun _ _ k => n - (intOf k).toNat)
  case atStart => exact ⟨0, 0, Nat.zero_le _, rfl, rfl, rfl⟩
  case round =>
    obtain ⟨j, y, hj, rfl, rfl, hy⟩ := hrel
    have hsj := hs j
    rw [← hy.out] at hsj
    obtain ⟨hs1, hs2⟩ := hsj
    by_cases hlt : j < n
    · obtain ⟨b, off, x, rfl, hc, hx, hx1, hx2⟩ := h.get hlt
      have hsn := hs (j + 1)
      have HS := Lib.hid (sum_snoc xs j x (by omega) hx.out)
      rw [HS.out, ← hy.out] at hsn
      obtain ⟨hs3, hs4⟩ := hsn
      clear h hl
      go_wp2
      go_round
      case rel => exact ⟨j + 1, y + x, by omega, by go_num, rfl, by rw [Hid, HS.out, hy.out]⟩
      case measure => simp [intOf]; omega
    · have HE := Lib.hid (show y = xs.sum by rw [hy.out, List.take_of_length_le (by omega)])
      clear h hl
      go_wp2
      go_ret
      exact ⟨ret_int HE.out, rfl⟩

/-- What a degree sequence adds up to, nought if it is none. -/
def seqTotal (xs : List Int) : Int := if isDeg xs then xs.sum else 0

theorem seqTotal_impl (a : Option Addr) (n cap : Nat) (xs : List Int) (w : World) (h : Ints w a n xs) :
    Calls Try.prog 30 #[.slice a n cap] w fun e w' => e = .returned (.int .i64 (seqTotal xs)) ∧ w = w' := by
  by_cases hd : isDeg xs = true
  · have HE := Lib.hid (show xs.sum = seqTotal xs by simp [seqTotal, hd])
    have hs := isDeg_small hd
    go_enter Try.func30, Try.ntmps30
    go_wp2_with (first | (go_at_call 19; refine (isDeg_impl _ _ _ _ _ h).mono ?_; rintro e w' ⟨rfl, rfl⟩) | (go_at_call 53; refine (sum_any _ _ _ _ _ h hs).mono ?_; rintro e w' ⟨rfl, rfl⟩))
    go_ret
    exact ⟨ret_int HE.out, rfl⟩
  · have HE := Lib.hid (show 0 = seqTotal xs by simp [seqTotal, hd])
    replace hd : isDeg xs = false := by simpa using hd
    go_enter Try.func30, Try.ntmps30
    go_wp2_with (first | (go_at_call 19; refine (isDeg_impl _ _ _ _ _ h).mono ?_; rintro e w' ⟨rfl, rfl⟩))
    go_ret
    exact ⟨ret_int HE.out, rfl⟩

set_option maxHeartbeats 400000 in
theorem seqTotal_spec (a : Option Addr) (n cap : Nat) (xs : List Int) (w : World) (h : Ints w a n xs) :
    Calls Try.prog 29 #[.slice a n cap] w fun e w' => e = .returned (.int .i64 (seqTotal xs)) ∧ Drew w w' := by
  have hn := h.small
  have hl := h.len
  by_cases hd : isDeg xs = true
  · have hs := isDeg_small hd
    have HT := Lib.hid (show xs.sum = seqTotal xs by simp [seqTotal, hd])
    go_enter Try.func29, Try.ntmps29
    go_wp2
    go_loopw [3, 4] (fun s k wr => ∃ (j : Nat) (y : Int), j ≤ n ∧ k = .int .i64 j ∧ s = .int .i64 y ∧ Hid (y = (xs.take j).sum) ∧ Drew w wr) (fun _ k _ => n - (intOf k).toNat)
    case atStart => exact ⟨0, 0, Nat.zero_le _, rfl, rfl, rfl, Drew.refl _⟩
    case round =>
      obtain ⟨j, y, hj, rfl, rfl, hy, hdr⟩ := hrel
      replace h := h.drew hdr
      have hsj := hs j
      rw [← hy.out] at hsj
      obtain ⟨hs1, hs2⟩ := hsj
      by_cases hlt : j < n
      · have h' := h
        obtain ⟨b, off, x, rfl, hc, hx, hx1, hx2⟩ := h.get hlt
        have hsn := hs (j + 1)
        have HS := Lib.hid (sum_snoc xs j x (by omega) hx.out)
        rw [HS.out, ← hy.out] at hsn
        obtain ⟨hs3, hs4⟩ := hsn
        clear hl
        go_wp2_with (go_at_call 17; refine (isDeg_spec _ _ _ _ _ h').mono ?_; rintro e w' ⟨rfl, ⟨m, rfl⟩⟩)
        go_roundw
        case rel => exact ⟨j + 1, y + x, by omega, by go_num, rfl, by rw [Hid, HS.out, hy.out], hdr.step _⟩
        case measure => simp [intOf]; omega
      · have HE := Lib.hid (show y = seqTotal xs by rw [← HT.out, hy.out, List.take_of_length_le (by omega)])
        clear h hl
        go_wp2
        go_ret
        exact ⟨ret_int HE.out, hdr⟩
  · have HE := Lib.hid (show 0 = seqTotal xs by simp [seqTotal, hd])
    replace hd : isDeg xs = false := by simpa using hd
    go_enter Try.func29, Try.ntmps29
    go_wp2
    go_loopw [3, 4] (fun s k wr => k = .int .i64 0 ∧ s = .int .i64 0 ∧ wr = w) (fun _ _ _ => 0)
    case atStart => exact ⟨rfl, rfl, rfl⟩
    case round =>
      obtain ⟨rfl, rfl, rfl⟩ := hrel
      by_cases hlt : 0 < n
      · go_wp2_with (go_at_call 17; refine (isDeg_spec _ _ _ _ _ h).mono ?_; rintro e w' ⟨rfl, ⟨m, rfl⟩⟩)
        go_ret
        exact ⟨ret_int HE.out, _, rfl⟩
      · go_wp2
        go_ret
        exact ⟨ret_int HE.out, Drew.refl _⟩

/-- The sum of the k greatest degrees. -/
def topDeg (xs : List Int) (k : Int) : Int := if isDeg xs then (xs.take k.toNat).sum else 0

theorem Ints.take {w : World} {a : Option Addr} {n : Nat} {xs : List Int} (h : Ints w a n xs) {k : Nat} (hk : k ≤ n) : Ints w a k (xs.take k) := by
  have hl := h.len
  refine ⟨by simp; omega, by have := h.small; omega, fun i hi => ?_, fun x hx => h.rng x (List.mem_of_mem_take hx)⟩
  obtain ⟨b, off, ha, hc⟩ := h.cell i (by omega)
  refine ⟨b, off, ha, ?_⟩
  rw [hc]
  congr 2
  simp [List.getD_eq_getElem?_getD, hi]

set_option maxHeartbeats 400000 in
theorem topDeg_impl (a : Option Addr) (n cap : Nat) (xs : List Int) (k : Int) (w : World) (h : Ints w a n xs) (hc : n ≤ cap) (hc2 : cap ≤ 9223372036854775807) (hk : I64 k) :
    Calls Try.prog 32 #[.slice a n cap, .int .i64 k] w fun e w' => e = .returned (.int .i64 (topDeg xs k)) ∧ w = w' := by
  have hl := h.len
  obtain ⟨hk1, hk2⟩ := hk
  by_cases hk0 : k < 1
  · have HE := Lib.hid (show 0 = topDeg xs k by unfold topDeg; rw [show k.toNat = 0 by omega]; simp)
    go_enter Try.func32, Try.ntmps32
    go_wp2
    go_ret
    exact ⟨ret_int HE.out, rfl⟩
  · by_cases hd : isDeg xs = true
    · have hs := isDeg_small hd
      have hn8 := isDeg_len hd
      by_cases hkn : k ≤ n
      · obtain ⟨q, rfl⟩ := Int.eq_ofNat_of_zero_le (show 0 ≤ k by omega)
        have HE := Lib.hid (show (xs.take q).sum = topDeg xs q by simp [topDeg, hd])
        have ht := h.take (k := q) (by omega)
        clear hl
        go_enter Try.func32, Try.ntmps32
        go_wp2_with (first | (go_at_call 19; refine (isDeg_impl _ _ _ _ _ h).mono ?_; rintro e w' ⟨rfl, rfl⟩) | (go_at_call 53; refine (sum_any _ _ _ _ _ ht (hs.take _)).mono ?_; rintro e w' ⟨rfl, rfl⟩))
        go_ret
        exact ⟨ret_int HE.out, rfl⟩
      · have HE := Lib.hid (show xs.sum = topDeg xs k by simp [topDeg, hd, List.take_of_length_le (show xs.length ≤ k.toNat by omega)])
        clear hl
        go_enter Try.func32, Try.ntmps32
        go_wp2_with (first | (go_at_call 19; refine (isDeg_impl _ _ _ _ _ h).mono ?_; rintro e w' ⟨rfl, rfl⟩) | (go_at_call 53; refine (sum_any _ _ _ _ _ h hs).mono ?_; rintro e w' ⟨rfl, rfl⟩))
        go_ret
        exact ⟨ret_int HE.out, rfl⟩
    · have HE := Lib.hid (show 0 = topDeg xs k by simp [topDeg, hd])
      replace hd : isDeg xs = false := by simpa using hd
      go_enter Try.func32, Try.ntmps32
      go_wp2_with (first | (go_at_call 19; refine (isDeg_impl _ _ _ _ _ h).mono ?_; rintro e w' ⟨rfl, rfl⟩))
      go_ret
      exact ⟨ret_int HE.out, rfl⟩

set_option maxHeartbeats 400000 in
theorem topDeg_spec (a : Option Addr) (n cap : Nat) (xs : List Int) (k : Int) (w : World) (h : Ints w a n xs) (hk : I64 k) :
    Calls Try.prog 31 #[.slice a n cap, .int .i64 k] w fun e w' => e = .returned (.int .i64 (topDeg xs k)) ∧ Drew w w' := by
  have hn := h.small
  have hl := h.len
  obtain ⟨hk1, hk2⟩ := hk
  by_cases hd : isDeg xs = true
  · have hs := isDeg_small hd
    have HT := Lib.hid (show (xs.take k.toNat).sum = topDeg xs k by simp [topDeg, hd])
    go_enter Try.func31, Try.ntmps31
    go_wp2
    go_loopw [5, 6] (fun s i wr => ∃ (j : Nat) (y : Int), j ≤ n ∧ j ≤ k.toNat ∧ i = .int .i64 j ∧ s = .int .i64 y ∧ Hid (y = (xs.take j).sum) ∧ Drew w wr) (fun _ i _ => n - (intOf i).toNat)
    case atStart => exact ⟨0, 0, Nat.zero_le _, Nat.zero_le _, rfl, rfl, rfl, Drew.refl _⟩
    case round =>
      obtain ⟨j, y, hj, hjk, rfl, rfl, hy, hdr⟩ := hrel
      replace h := h.drew hdr
      have hsj := hs j
      rw [← hy.out] at hsj
      obtain ⟨hs1, hs2⟩ := hsj
      by_cases hlt : j < n
      · by_cases hlk : (j : Int) < k
        · have h' := h
          obtain ⟨b, off, x, rfl, hc, hx, hx1, hx2⟩ := h.get hlt
          have hsn := hs (j + 1)
          have HS := Lib.hid (sum_snoc xs j x (by omega) hx.out)
          rw [HS.out, ← hy.out] at hsn
          obtain ⟨hs3, hs4⟩ := hsn
          clear hl
          go_wp2_with (go_at_call 17; refine (isDeg_spec _ _ _ _ _ h').mono ?_; rintro e w' ⟨rfl, ⟨m, rfl⟩⟩)
          go_roundw
          case rel => exact ⟨j + 1, y + x, by omega, by omega, by go_num, rfl, by rw [Hid, HS.out, hy.out], hdr.step _⟩
          case measure => simp [intOf]; omega
        · have HE := Lib.hid (show y = topDeg xs k by rw [← HT.out, hy.out, show k.toNat = j by omega])
          clear h hl
          go_wp2
          go_ret
          exact ⟨ret_int HE.out, hdr⟩
      · have HE := Lib.hid (show y = topDeg xs k by rw [← HT.out, hy.out, List.take_of_length_le (show xs.length ≤ j by omega), List.take_of_length_le (show xs.length ≤ k.toNat by omega)])
        clear h hl
        go_wp2
        go_ret
        exact ⟨ret_int HE.out, hdr⟩
  · have HE := Lib.hid (show 0 = topDeg xs k by simp [topDeg, hd])
    replace hd : isDeg xs = false := by simpa using hd
    go_enter Try.func31, Try.ntmps31
    go_wp2
    go_loopw [5, 6] (fun s i wr => i = .int .i64 0 ∧ s = .int .i64 0 ∧ wr = w) (fun _ _ _ => 0)
    case atStart => exact ⟨rfl, rfl, rfl⟩
    case round =>
      obtain ⟨rfl, rfl, rfl⟩ := hrel
      by_cases hlt : 0 < n
      · by_cases hlk : (0 : Int) < k
        · go_wp2_with (go_at_call 17; refine (isDeg_spec _ _ _ _ _ h).mono ?_; rintro e w' ⟨rfl, ⟨m, rfl⟩⟩)
          go_ret
          exact ⟨ret_int HE.out, _, rfl⟩
        · go_wp2
          go_ret
          exact ⟨ret_int HE.out, Drew.refl _⟩
      · go_wp2
        go_ret
        exact ⟨ret_int HE.out, Drew.refl _⟩

end Go.Proofs.Ytnemkajkidgfjaa
