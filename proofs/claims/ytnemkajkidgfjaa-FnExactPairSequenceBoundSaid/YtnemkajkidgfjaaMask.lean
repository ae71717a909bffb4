/- Contracts: the atoms of a mask; the sequence of greatest norm. -/
import Derived.Test.YtnemkajkidgfjaaDeg
import Derived.Test.YtnemkajkidgfjaaBits
namespace Go.Proofs.Ytnemkajkidgfjaa
open Go.RowKit
set_option linter.unusedVariables false
set_option linter.unusedSimpArgs false

/-- The atoms of a mask. -/
def maskAtoms (k : Int) : List Int := if betw k 0 15 then bitsTo k.toNat 4 else []

set_option maxHeartbeats 400000 in
theorem maskAtoms_impl (k : Int) (w : World) (hk : I64 k) :
    Calls Try.prog 22 #[.int .i64 k] w fun e w' => ∃ b n c, e = .returned (.slice b n c) ∧ OwnInts w.heap.size w' (.slice b n c) n (maskAtoms k) ∧ Below w.heap.size w w' := by
  by_cases hb : betw k 0 15 = true
  · have h1 := hb
    simp only [betw, Bool.and_eq_true, decide_eq_true_eq] at h1
    obtain ⟨K, rfl⟩ := Int.eq_ofNat_of_zero_le (show 0 ≤ k by omega)
    have hK : K ≤ 15 := by omega
    have HT := Lib.hid (show maskAtoms K = bitsTo K 4 by simp [maskAtoms, hb])
    clear h1
    go_enter Try.func22, Try.ntmps22
    go_wp2_with (first | (go_at_call 51; refine (within_any _ _ _ _).mono ?_; rintro e w' ⟨rfl, rfl⟩))
    go_loopw [3, 4] (fun v i wr => ∃ (j : Nat), j ≤ 4 ∧ i = .int .i64 j ∧ ∃ n, OwnInts w.heap.size wr v n (bitsTo K j) ∧ Below w.heap.size w wr) (fun _ i _ => 4 - (intOf i).toNat)
    case atStart => exact ⟨0, Nat.zero_le _, rfl, 0, own_empty (Nat.le_refl _), (Below.refl _ _).alloc (Nat.le_refl _) _⟩
    case round =>
      obtain ⟨j, hj, rfl, n, hown, hbl⟩ := hrel
      have hsz := hbl.size
      have hn4 : n ≤ 4 := by have := hown.len; have := bitsTo_len K j; omega
      by_cases hlt : j < 4
      · cases hbit : bitAt K j with
        | true =>
          have ht := bit_test K j (by omega)
          rw [hbit] at ht
          have HB := Lib.hid hbit
          clear hbit
          go_wp2_with (first
            | (at_builtin; refine wpList_app1 _ _ _ _ _ _ hown hbl hsz ⟨by omega, by omega⟩ (by omega) rfl rfl rfl rfl ?_; intro v' w1 hown' hb' hsz'))
          rw [← bitsTo_yes HB.out] at hown'
          go_roundw
          case rel => exact ⟨j + 1, by omega, by go_num, n + 1, hown', hb'⟩
          case measure => simp [intOf]; omega
        | false =>
          have ht := bit_test K j (by omega)
          rw [hbit] at ht
          rw [← bitsTo_no hbit] at hown
          have HO := Lib.hid hown
          clear hbit hown
          go_wp2
          go_roundw
          case rel => exact ⟨j + 1, by omega, by go_num, n, HO.out, hbl⟩
          case measure => simp [intOf]; omega
      · obtain rfl : j = 4 := by omega
        obtain ⟨a, cap, rfl, _⟩ := own_form hown.row
        rw [← HT.out] at hown
        go_wp2
        go_ret
        exact ⟨_, _, _, rfl, hown, hbl⟩
  · replace hb : betw k 0 15 = false := by simpa using hb
    have HE := Lib.hid (show maskAtoms k = [] by simp [maskAtoms, hb])
    go_enter Try.func22, Try.ntmps22
    go_wp2_with (first | (go_at_call 51; refine (within_any _ _ _ _).mono ?_; rintro e w' ⟨rfl, rfl⟩))
    go_ret
    exact ⟨_, _, _, rfl, by rw [HE.out]; exact OwnInts.nil _ _, Below.refl _ _⟩

set_option maxHeartbeats 400000 in
theorem maskAtoms_spec (k : Int) (w : World) (hk : I64 k) :
    Calls Try.prog 21 #[.int .i64 k] w fun e w' => ∃ b n c, e = .returned (.slice b n c) ∧ OwnInts w.heap.size w' (.slice b n c) n (maskAtoms k) ∧ Below w.heap.size w w' := by
  by_cases hb : betw k 0 15 = true
  · have h1 := hb
    simp only [betw, Bool.and_eq_true, decide_eq_true_eq] at h1
    obtain ⟨K, rfl⟩ := Int.eq_ofNat_of_zero_le (show 0 ≤ k by omega)
    have hK : K ≤ 15 := by omega
    have HT := Lib.hid (show maskAtoms K = bitsTo K 4 by simp [maskAtoms, hb])
    clear h1
    go_enter Try.func21, Try.ntmps21
    go_wp2
    go_loopw [3, 4] (fun v i wr => ∃ (j : Nat), j ≤ 4 ∧ i = .int .i64 j ∧ ∃ n, OwnInts w.heap.size wr v n (bitsTo K j) ∧ Below w.heap.size w wr) (fun _ i _ => 4 - (intOf i).toNat)
    case atStart => exact ⟨0, Nat.zero_le _, rfl, 0, own_empty (Nat.le_refl _), (Below.refl _ _).alloc (Nat.le_refl _) _⟩
    case round =>
      obtain ⟨j, hj, rfl, n, hown, hbl⟩ := hrel
      have hsz := hbl.size
      have hn4 : n ≤ 4 := by have := hown.len; have := bitsTo_len K j; omega
      by_cases hlt : j < 4
      · cases hbit : bitAt K j with
        | true =>
          have ht := bit_test K j (by omega)
          rw [hbit] at ht
          have HB := Lib.hid hbit
          clear hbit
          go_wp2_with (first
            | (go_at_call 50; refine (l1In_any _ _ _ _).mono ?_; rintro e w' ⟨rfl, rfl⟩)
            | (at_builtin; refine wpList_app1 _ _ _ _ _ _ hown hbl hsz ⟨by omega, by omega⟩ (by omega) rfl rfl rfl rfl ?_; intro v' w1 hown' hb' hsz'))
          rw [← bitsTo_yes HB.out] at hown'
          go_roundw
          case rel => exact ⟨j + 1, by omega, by go_num, n + 1, hown', hb'⟩
          case measure => simp [intOf]; omega
        | false =>
          have ht := bit_test K j (by omega)
          rw [hbit] at ht
          rw [← bitsTo_no hbit] at hown
          have HO := Lib.hid hown
          clear hbit hown
          go_wp2_with (first | (go_at_call 50; refine (l1In_any _ _ _ _).mono ?_; rintro e w' ⟨rfl, rfl⟩))
          go_roundw
          case rel => exact ⟨j + 1, by omega, by go_num, n, HO.out, hbl⟩
          case measure => simp [intOf]; omega
      · obtain rfl : j = 4 := by omega
        obtain ⟨a, cap, rfl, _⟩ := own_form hown.row
        rw [← HT.out] at hown
        go_wp2
        go_ret
        exact ⟨_, _, _, rfl, hown, hbl⟩
  · replace hb : betw k 0 15 = false := by simpa using hb
    have HE := Lib.hid (show maskAtoms k = [] by simp [maskAtoms, hb])
    go_enter Try.func21, Try.ntmps21
    go_wp2_with fail
    go_loopw [3, 4] (fun v i wr => i = .int .i64 0 ∧ v = .slice (some ⟨w.heap.size, 0, none⟩) 0 0 ∧ wr = w.alloc (.cells #[] 3)) (fun _ _ _ => 0)
    case atStart => exact ⟨rfl, rfl, rfl⟩
    case round =>
      obtain ⟨rfl, rfl, rfl⟩ := hrel
      go_wp2_with (first | (go_at_call 50; refine (l1In_any _ _ _ _).mono ?_; rintro e w' ⟨rfl, rfl⟩))
      go_ret
      exact ⟨_, _, _, rfl, by rw [HE.out]; exact own_empty (Nat.le_refl _), (Below.refl _ _).alloc (Nat.le_refl _) _⟩

/-- total shared out in parts of at most largest: at most as many parts as the fuel. -/
def parts (largest : Int) : Nat → Int → List Int
  | 0, _ => []
  | f + 1, total => if 0 < total then min largest total :: parts largest f (total - min largest total) else []
/-- The sequence of the greatest norms: total shared out in parts of at most largest. -/
def fromNorms (total largest : Int) : List Int := if betw total 0 8 && decide (1 ≤ largest) then parts largest 8 total else []

theorem parts_step {largest total : Int} {f : Nat} (h : 0 < total) : parts largest (f + 1) total = min largest total :: parts largest f (total - min largest total) := by rw [parts, if_pos h]

set_option maxHeartbeats 400000 in
theorem fromNorms_impl (total largest : Int) (w : World) (h1 : I64 total) (h2 : I64 largest) :
    Calls Try.prog 26 #[.int .i64 total, .int .i64 largest] w fun e w' => ∃ b n c, e = .returned (.slice b n c) ∧ OwnInts w.heap.size w' (.slice b n c) n (fromNorms total largest) ∧ Below w.heap.size w w' := by
  obtain ⟨hla, hlb⟩ := h2
  by_cases hb : betw total 0 8 = true
  · by_cases hl : 1 ≤ largest
    · have h3 := hb
      simp only [betw, Bool.and_eq_true, decide_eq_true_eq] at h3
      have HT := Lib.hid (show fromNorms total largest = parts largest 8 total by simp [fromNorms, hb, hl])
      go_enter Try.func26, Try.ntmps26
      go_wp2_with (first | (go_at_call 51; refine (within_any _ _ _ _).mono ?_; rintro e w' ⟨rfl, rfl⟩))
      go_loopw [0, 5, 6] (fun t v _ wr => ∃ (j : Nat) (y : Int) (n : Nat) (xs : List Int), j ≤ 8 ∧ n ≤ 8 - j ∧ t = .int .i64 y ∧ 0 ≤ y ∧ y ≤ j ∧ OwnInts w.heap.size wr v n xs ∧ Hid (fromNorms total largest = xs ++ parts largest j y) ∧ Below w.heap.size w wr) (fun t _ _ _ => (intOf t).toNat)
      case atStart => exact ⟨8, total, 0, [], by omega, by omega, rfl, by omega, by omega, own_empty (Nat.le_refl _), HT.out, (Below.refl _ _).alloc (Nat.le_refl _) _⟩
      case round =>
        obtain ⟨j, y, n, xs, hj, hn, rfl, hy0, hyj, hown, hE, hbl⟩ := hrel
        have hsz := hbl.size
        by_cases hlt : 0 < y
        · obtain ⟨i, rfl⟩ : ∃ i, j = i + 1 := ⟨j - 1, by omega⟩
          obtain ⟨d, hd⟩ : ∃ d, d = min largest y := ⟨_, rfl⟩
          have HE := Lib.hid (show fromNorms total largest = (xs ++ [d]) ++ parts largest i (y - d) by rw [hE.out, parts_step hlt, ← hd]; simp)
          by_cases hle : largest ≤ y
          · obtain rfl : d = largest := by omega
            clear hd
            go_wp2_with (first
              | (at_builtin; refine wpList_app1 _ _ _ _ _ _ hown hbl hsz ⟨by omega, by omega⟩ (by omega) rfl rfl rfl rfl ?_; intro v' w1 hown' hb' hsz'))
            go_roundw
            case rel => exact ⟨i, y - d, n + 1, xs ++ [d], by omega, by omega, by go_num, by omega, by omega, hown', HE.out, hb'⟩
            case measure => simp [intOf]; omega
          · obtain rfl : d = y := by omega
            clear hd
            have hgt : d < largest := by omega
            go_wp2_with (first
              | (at_builtin; refine wpList_app1 _ _ _ _ _ _ hown hbl hsz ⟨by omega, by omega⟩ (by omega) rfl rfl rfl rfl ?_; intro v' w1 hown' hb' hsz'))
            go_roundw
            case rel => exact ⟨i, d - d, n + 1, xs ++ [d], by omega, by omega, by go_num, by omega, by omega, hown', HE.out, hb'⟩
            case measure => simp [intOf]; omega
        · have hE' : fromNorms total largest = xs := by
            rw [hE.out]
            cases j with
            | zero => simp [parts]
            | succ i => rw [parts, if_neg hlt]; simp
          obtain ⟨a, cap, rfl, _⟩ := own_form hown.row
          rw [← hE'] at hown
          have HO := Lib.hid hown
          clear hown hE'
          go_wp2
          go_ret
          exact ⟨_, _, _, rfl, HO.out, hbl⟩
    · have HE := Lib.hid (show fromNorms total largest = [] by simp [fromNorms, hl])
      have hl' : largest < 1 := by omega
      go_enter Try.func26, Try.ntmps26
      go_wp2_with (first | (go_at_call 51; refine (within_any _ _ _ _).mono ?_; rintro e w' ⟨rfl, rfl⟩))
      go_ret
      exact ⟨_, _, _, rfl, by rw [HE.out]; exact OwnInts.nil _ _, Below.refl _ _⟩
  · replace hb : betw total 0 8 = false := by simpa using hb
    have HE := Lib.hid (show fromNorms total largest = [] by simp [fromNorms, hb])
    go_enter Try.func26, Try.ntmps26
    go_wp2_with (first | (go_at_call 51; refine (within_any _ _ _ _).mono ?_; rintro e w' ⟨rfl, rfl⟩))
    go_ret
    exact ⟨_, _, _, rfl, by rw [HE.out]; exact OwnInts.nil _ _, Below.refl _ _⟩

set_option maxHeartbeats 400000 in
theorem fromNorms_spec (total largest : Int) (w : World) (h1 : I64 total) (h2 : I64 largest) :
    Calls Try.prog 25 #[.int .i64 total, .int .i64 largest] w fun e w' => ∃ b n c, e = .returned (.slice b n c) ∧ OwnInts w.heap.size w' (.slice b n c) n (fromNorms total largest) ∧ Below w.heap.size w w' := by
  obtain ⟨hla, hlb⟩ := h2
  by_cases hb : betw total 0 8 = true
  · by_cases hl : 1 ≤ largest
    · have h3 := hb
      simp only [betw, Bool.and_eq_true, decide_eq_true_eq] at h3
      have HT := Lib.hid (show fromNorms total largest = parts largest 8 total by simp [fromNorms, hb, hl])
      go_enter Try.func25, Try.ntmps25
      go_wp2_with (first | (go_at_call 50; refine (l1In_any _ _ _ _).mono ?_; rintro e w' ⟨rfl, rfl⟩))
      go_loopw [0, 5] (fun t v wr => ∃ (j : Nat) (y : Int) (n : Nat) (xs : List Int), j ≤ 8 ∧ n ≤ 8 - j ∧ t = .int .i64 y ∧ 0 ≤ y ∧ y ≤ j ∧ OwnInts w.heap.size wr v n xs ∧ Hid (fromNorms total largest = xs ++ parts largest j y) ∧ Below w.heap.size w wr) (fun t _ _ => (intOf t).toNat)
      case atStart => exact ⟨8, total, 0, [], by omega, by omega, rfl, by omega, by omega, own_empty (Nat.le_refl _), HT.out, (Below.refl _ _).alloc (Nat.le_refl _) _⟩
      case round =>
        obtain ⟨j, y, n, xs, hj, hn, rfl, hy0, hyj, hown, hE, hbl⟩ := hrel
        have hsz := hbl.size
        by_cases hlt : 0 < y
        · obtain ⟨i, rfl⟩ : ∃ i, j = i + 1 := ⟨j - 1, by omega⟩
          obtain ⟨d, hd⟩ : ∃ d, d = min largest y := ⟨_, rfl⟩
          have HE := Lib.hid (show fromNorms total largest = (xs ++ [d]) ++ parts largest i (y - d) by rw [hE.out, parts_step hlt, ← hd]; simp)
          by_cases hle : largest < y
          · obtain rfl : d = largest := by omega
            clear hd
            go_wp2_with (first
              | (at_builtin; refine wpList_app1 _ _ _ _ _ _ hown hbl hsz ⟨by omega, by omega⟩ (by omega) rfl rfl rfl rfl ?_; intro v' w1 hown' hb' hsz'))
            go_roundw
            case rel => exact ⟨i, y - d, n + 1, xs ++ [d], by omega, by omega, by go_num, by omega, by omega, hown', HE.out, hb'⟩
            case measure => simp [intOf]; omega
          · obtain rfl : d = y := by omega
            clear hd
            have hgt : d ≤ largest := by omega
            go_wp2_with (first
              | (at_builtin; refine wpList_app1 _ _ _ _ _ _ hown hbl hsz ⟨by omega, by omega⟩ (by omega) rfl rfl rfl rfl ?_; intro v' w1 hown' hb' hsz'))
            go_roundw
            case rel => exact ⟨i, d - d, n + 1, xs ++ [d], by omega, by omega, by go_num, by omega, by omega, hown', HE.out, hb'⟩
            case measure => simp [intOf]; omega
        · have hE' : fromNorms total largest = xs := by
            rw [hE.out]
            cases j with
            | zero => simp [parts]
            | succ i => rw [parts, if_neg hlt]; simp
          obtain ⟨a, cap, rfl, _⟩ := own_form hown.row
          rw [← hE'] at hown
          have HO := Lib.hid hown
          clear hown hE'
          go_wp2
          go_ret
          exact ⟨_, _, _, rfl, HO.out, hbl⟩
    · have HE := Lib.hid (show fromNorms total largest = [] by simp [fromNorms, hl])
      have hl' : largest < 1 := by omega
      go_enter Try.func25, Try.ntmps25
      go_wp2_with (first | (go_at_call 50; refine (l1In_any _ _ _ _).mono ?_; rintro e w' ⟨rfl, rfl⟩))
      go_ret
      exact ⟨_, _, _, rfl, by rw [HE.out]; exact own_empty (Nat.le_refl _), (Below.refl _ _).alloc (Nat.le_refl _) _⟩
  · replace hb : betw total 0 8 = false := by simpa using hb
    have HE := Lib.hid (show fromNorms total largest = [] by simp [fromNorms, hb])
    go_enter Try.func25, Try.ntmps25
    go_wp2_with (first | (go_at_call 50; refine (l1In_any _ _ _ _).mono ?_; rintro e w' ⟨rfl, rfl⟩))
    go_ret
    exact ⟨_, _, _, rfl, by rw [HE.out]; exact own_empty (Nat.le_refl _), (Below.refl _ _).alloc (Nat.le_refl _) _⟩

end Go.Proofs.Ytnemkajkidgfjaa
