/- Contracts: sets of columns. -/
import Derived.Test.YtnemkajkidgfjaaDeg
import Derived.Test.YtnemkajkidgfjaaBits
import Derived.Test.YtnemkajkidgfjaaApp
import Derived.Test.YtnemkajkidgfjaaHelp2
namespace Go.Proofs.Ytnemkajkidgfjaa
open Go.RowKit
set_option linter.unusedVariables false
set_option linter.unusedSimpArgs false

theorem bitAt_high {K j : Nat} (h : K < 2 ^ j) : bitAt K j = false := by
  unfold bitAt; rw [Nat.div_eq_of_lt h]; rfl
theorem bitsTo_high {K j : Nat} (h : K < 2 ^ j) : ∀ m, bitsTo K (j + m) = bitsTo K j
  | 0 => rfl
  | m + 1 => by
    have hlt : K < 2 ^ (j + m) := Nat.lt_of_lt_of_le h (Nat.pow_le_pow_right (by omega) (by omega))
    rw [← Nat.add_assoc, bitsTo_no (bitAt_high hlt), bitsTo_high h m]

set_option maxHeartbeats 400000 in
theorem l12Set_any (K : Nat) (w : World) (hK : K < 9223372036854775808) :
    Calls Try.prog 54 #[.int .i64 K] w fun e w' => ∃ b n c, e = .returned (.slice b n c) ∧ OwnInts w.heap.size w' (.slice b n c) n (bitsTo K 3) ∧ Below w.heap.size w w' := by
  go_enter Try.func54, Try.ntmps54
  go_wp2
  go_loopw [3, 4] (fun v i wr => ∃ (j : Nat), j ≤ 3 ∧ i = .int .i64 j ∧ ∃ n, OwnInts w.heap.size wr v n (bitsTo K j) ∧ Below w.heap.size w wr) (fun _ i _ => 3 - (intOf i).toNat)
  case atStart => exact ⟨0, Nat.zero_le _, rfl, 0, own_empty (Nat.le_refl _), (Below.refl _ _).alloc (Nat.le_refl _) _⟩
  case round =>
    obtain ⟨j, hj, rfl, n, hown, hbl⟩ := hrel
    have hsz := hbl.size
    have hn4 : n ≤ 4 := by have := hown.len; have := bitsTo_len K j; omega
    by_cases hlt : j < 3
    · cases hbit : bitAt K j with
      | true =>
        have ht := bit_test K j hK
        rw [hbit] at ht
        have HB := Lib.hid hbit
        clear hbit
        go_wp2_with (first
          | (at_builtin; refine wpList_app1 _ _ _ _ _ _ hown hbl hsz ⟨by omega, by omega⟩ (by omega) rfl rfl rfl rfl ?_; intro v' w1 hown' hb' hsz'))
        rw [← bitsTo_yes HB.out] at hown'
        go_roundw
        case rel => exact ⟨j + 1, by omega, by go_num, n + 1, hown', hb'⟩
        case measure => simp [intOf]; omega
      | false =>
        have ht := bit_test K j hK
        rw [hbit] at ht
        rw [← bitsTo_no hbit] at hown
        have HO := Lib.hid hown
        clear hbit hown
        go_wp2
        go_roundw
        case rel => exact ⟨j + 1, by omega, by go_num, n, HO.out, hbl⟩
        case measure => simp [intOf]; omega
    · obtain rfl : j = 3 := by omega
      obtain ⟨a, cap, rfl, _⟩ := own_form hown.row
      go_wp2
      go_ret
      exact ⟨_, _, _, rfl, hown, hbl⟩

theorem shift_zero (K j : Nat) : ((K : Int) / 2 ^ j != 0) = !decide (K < 2 ^ j) := by
  have e : ((K : Int) / 2 ^ j) = ((K / 2 ^ j : Nat) : Int) := by simp
  rw [e]
  by_cases h : K < 2 ^ j
  · rw [Nat.div_eq_of_lt h]; simp [h]
  · have : 0 < K / 2 ^ j := Nat.div_pos (by omega) (Nat.two_pow_pos j)
    have e2 : (((K / 2 ^ j : Nat) : Int) != 0) = true := by rw [bne_iff_ne]; omega
    rw [e2]; simp [h]

set_option maxHeartbeats 400000 in
theorem bitsOf_any (K : Nat) (w : World) (hK : K < 8) :
    Calls Try.prog 55 #[.int .i64 K] w fun e w' => ∃ b n c, e = .returned (.slice b n c) ∧ OwnInts w.heap.size w' (.slice b n c) n (bitsTo K 3) ∧ Below w.heap.size w w' := by
  go_enter Try.func55, Try.ntmps55
  go_wp2
  go_loopw [3, 4] (fun v i wr => ∃ (j : Nat), j ≤ 3 ∧ i = .int .i64 j ∧ ∃ n, OwnInts w.heap.size wr v n (bitsTo K j) ∧ Below w.heap.size w wr) (fun _ i _ => 3 - (intOf i).toNat)
  case atStart => exact ⟨0, Nat.zero_le _, rfl, 0, own_empty (Nat.le_refl _), (Below.refl _ _).alloc (Nat.le_refl _) _⟩
  case round =>
    obtain ⟨j, hj, rfl, n, hown, hbl⟩ := hrel
    have hsz := hbl.size
    have hn4 : n ≤ 4 := by have := hown.len; have := bitsTo_len K j; omega
    by_cases hlt : K < 2 ^ j
    · have hz := shift_zero K j
      rw [show decide (K < 2 ^ j) = true by simpa using hlt, Bool.not_true] at hz
      have e : bitsTo K 3 = bitsTo K j := by
        have := bitsTo_high hlt (3 - j)
        rwa [show j + (3 - j) = 3 by omega] at this
      obtain ⟨a, cap, rfl, _⟩ := own_form hown.row
      rw [← e] at hown
      have HO := Lib.hid hown
      clear hown e hlt
      go_wp2
      go_ret
      exact ⟨_, _, _, rfl, HO.out, hbl⟩
    · have hz := shift_zero K j
      rw [show decide (K < 2 ^ j) = false by simpa using hlt, Bool.not_false] at hz
      have hj3 : j < 3 := by
        rcases (by omega : j < 3 ∨ j = 3) with h | h
        · exact h
        · subst h; omega
      clear hlt
      cases hbit : bitAt K j with
      | true =>
        have ht := bit_test K j (by omega)
        rw [hbit] at ht
        have HB := Lib.hid hbit
        clear hbit
        go_wp2_with (first
          | (at_builtin; refine wpList_app1 _ _ _ _ _ _ hown hbl hsz ⟨by omega, by omega⟩ (by omega) rfl rfl rfl rfl ?_; intro v' w1 hown' hb' hsz'))
        rw [← bitsTo_yes HB.out] at hown'
        go_roundw
        case rel => exact ⟨j + 1, by omega, by go_num, n + 1, hown', hb'⟩
        case measure => simp [intOf]; omega
      | false =>
        have ht := bit_test K j (by omega)
        rw [hbit] at ht
        rw [← bitsTo_no hbit] at hown
        have HO := Lib.hid hown
        clear hbit hown
        go_wp2
        go_roundw
        case rel => exact ⟨j + 1, by omega, by go_num, n, HO.out, hbl⟩
        case measure => simp [intOf]; omega

/-- The sets of columns 1 .. j, each as its columns. -/
def subsetsTo (j : Nat) : List (List Int) := (List.range j).map fun m => bitsTo (m + 1) 3
theorem subsetsTo_succ (j : Nat) : subsetsTo (j + 1) = subsetsTo j ++ [bitsTo (j + 1) 3] := by simp [subsetsTo, List.range_succ]
def colSubsets (k : Int) : List (List Int) := if betw k 1 3 then subsetsTo (2 ^ k.toNat - 1) else []
theorem infoInts : (Try.prog.info? 24).map (fun i => (i.zero, i.size, i.bytes)) = some (some (.slice none 0 0), 1, 24) := by kernel_rfl

set_option maxHeartbeats 400000 in
theorem colSubsets_impl (k : Int) (w : World) :
    Calls Try.prog 40 #[.int .i64 k] w fun e w' => ∃ b n c, e = .returned (.slice b n c) ∧ Own oII w.heap.size w'.heap.size w' [.slice b n c] (colSubsets k) ∧ Below w.heap.size w w' := by
  by_cases hb : betw k 1 3 = true
  · have h1 := hb
    simp only [betw, Bool.and_eq_true, decide_eq_true_eq] at h1
    obtain ⟨K, rfl⟩ := Int.eq_ofNat_of_zero_le (show 0 ≤ k by omega)
    have hK : 1 ≤ K ∧ K ≤ 3 := by omega
    clear h1
    obtain ⟨P, hP⟩ : ∃ P, P = 2 ^ K := ⟨_, rfl⟩
    have hP8 : 2 ≤ P ∧ P ≤ 8 := by
      rw [hP]
      rcases (by omega : K = 1 ∨ K = 2 ∨ K = 3) with rfl | rfl | rfl <;> decide
    have hw : wrap64 ((2 : Int) ^ K) = (P : Int) := by
      rw [hP]
      rcases (by omega : K = 1 ∨ K = 2 ∨ K = 3) with rfl | rfl | rfl <;> (unfold wrap64; decide)
    have HT := Lib.hid (show colSubsets K = subsetsTo (P - 1) by simp [colSubsets, hb, hP])
    clear hP
    go_enter Try.func40, Try.ntmps40
    go_wp2_with (first | (go_at_call 51; refine (within_any _ _ _ _).mono ?_; rintro e w' ⟨rfl, rfl⟩))
    go_loopw [3, 4] (fun v i wr => ∃ (j : Nat), j + 1 ≤ P ∧ i = .int .i64 (j + 1) ∧ Hid (Own oII w.heap.size wr.heap.size wr [v] (subsetsTo j)) ∧ Below w.heap.size w wr) (fun _ i _ => P - (intOf i).toNat)
    case atStart => exact ⟨0, by omega, rfl, Lib.hid (by have h0 := own_empty_S (E := 24) (o := oI) (Nat.le_refl w.heap.size); simpa [subsetsTo, oII] using h0), (Below.refl _ _).alloc (Nat.le_refl _) _⟩
    case round =>
      obtain ⟨j, hj, rfl, hown, hbl⟩ := hrel
      have hsz := hbl.size
      by_cases hlt : j + 1 < P
      · have hcall := bitsOf_any (j + 1) wr (by omega)
        rw [show ((j + 1 : Nat) : Int) = (j : Int) + 1 by omega] at hcall
        have HC := Lib.hid hcall
        clear hcall
        have hlen : (subsetsTo j).length = j := by simp [subsetsTo]
        have hle : (subsetsTo j).length ≤ 100000000 := by omega
        clear hlen
        go_wp2_with fail
        refine HC.out.mono ?_
        rintro e w1 ⟨b, n, c, rfl, ho, hb1⟩
        have HO := Lib.hid (hown.out.below hb1 (Nat.le_refl _))
        have HY := Lib.hid ho.own
        have hb2 := on hbl hb1
        have hsz1 := hb1.size
        clear hown ho
        go_wp2_with (first
          | (at_builtin; go_must (refine wpList_appS (c := [.slice b n c]) Try.underlying35 infoInts rfl (by decide) (by decide) rfl _ _ _ _ _ HO.out HY.out (by simp [Value.oneCell']) hsz hsz1 (Nat.le_refl _) hb2 hle rfl rfl rfl rfl ?_); intro v' w2 hown' hb' hsz'))
        rw [← subsetsTo_succ] at hown'
        have HN := Lib.hid hown'
        clear hown'
        go_wp2
        go_roundw
        case rel => exact ⟨j + 1, by omega, by go_num, HN, hb'⟩
        case measure => simp [intOf]; omega
      · obtain rfl : P = j + 1 := by omega
        have HO := hown.out
        have hf : ∃ a n c, u3 = .slice a n c := by
          obtain ⟨fp, ⟨v, css, fps, hv, _, h1, _⟩, _⟩ := HO
          simp at hv
          subst hv
          obtain ⟨a, cap, hv, _⟩ := own_form h1
          exact ⟨_, _, _, hv⟩
        obtain ⟨a, n, c, rfl⟩ := hf
        rw [show subsetsTo j = colSubsets K by rw [HT.out]; rfl] at HO
        have HN := Lib.hid HO
        clear HO hown
        go_wp2
        go_ret
        exact ⟨_, _, _, rfl, HN.out, hbl⟩
  · replace hb : betw k 1 3 = false := by simpa using hb
    have HE := Lib.hid (show colSubsets k = [] by simp [colSubsets, hb])
    go_enter Try.func40, Try.ntmps40
    go_wp2_with (first | (go_at_call 51; refine (within_any _ _ _ _).mono ?_; rintro e w' ⟨rfl, rfl⟩))
    go_ret
    exact ⟨_, _, _, rfl, by rw [HE.out]; exact own_nil_S, Below.refl _ _⟩

set_option maxHeartbeats 400000 in
theorem colSubsets_spec (k : Int) (w : World) :
    Calls Try.prog 39 #[.int .i64 k] w fun e w' => ∃ b n c, e = .returned (.slice b n c) ∧ Own oII w.heap.size w'.heap.size w' [.slice b n c] (colSubsets k) ∧ Below w.heap.size w w' := by
  by_cases hb : betw k 1 3 = true
  · have h1 := hb
    simp only [betw, Bool.and_eq_true, decide_eq_true_eq] at h1
    obtain ⟨K, rfl⟩ := Int.eq_ofNat_of_zero_le (show 0 ≤ k by omega)
    have hK : 1 ≤ K ∧ K ≤ 3 := by omega
    clear h1
    obtain ⟨P, hP⟩ : ∃ P, P = 2 ^ K := ⟨_, rfl⟩
    have hP8 : 2 ≤ P ∧ P ≤ 8 := by
      rw [hP]
      rcases (by omega : K = 1 ∨ K = 2 ∨ K = 3) with rfl | rfl | rfl <;> decide
    have hw : wrap64 ((2 : Int) ^ K) = (P : Int) := by
      rw [hP]
      rcases (by omega : K = 1 ∨ K = 2 ∨ K = 3) with rfl | rfl | rfl <;> (unfold wrap64; decide)
    have HT := Lib.hid (show colSubsets K = subsetsTo (P - 1) by simp [colSubsets, hb, hP])
    clear hP
    go_enter Try.func39, Try.ntmps39
    go_wp2
    go_loopw [3, 4] (fun v i wr => ∃ (j : Nat), j + 1 ≤ P ∧ i = .int .i64 (j + 1) ∧ Hid (Own oII w.heap.size wr.heap.size wr [v] (subsetsTo j)) ∧ Below w.heap.size w wr) (fun _ i _ => P - (intOf i).toNat)
    case atStart => exact ⟨0, by omega, rfl, Lib.hid (by have h0 := own_empty_S (E := 24) (o := oI) (Nat.le_refl w.heap.size); simpa [subsetsTo, oII] using h0), (Below.refl _ _).alloc (Nat.le_refl _) _⟩
    case round =>
      obtain ⟨j, hj, rfl, hown, hbl⟩ := hrel
      have hsz := hbl.size
      by_cases hlt : j + 1 < P
      · have hcall := l12Set_any (j + 1) wr (by omega)
        rw [show ((j + 1 : Nat) : Int) = (j : Int) + 1 by omega] at hcall
        have HC := Lib.hid hcall
        clear hcall
        have hlen : (subsetsTo j).length = j := by simp [subsetsTo]
        have hle : (subsetsTo j).length ≤ 100000000 := by omega
        clear hlen
        go_wp2_with (go_at_call 50; refine (l1In_any _ _ _ _).mono ?_; rintro e w' ⟨rfl, rfl⟩)
        refine HC.out.mono ?_
        rintro e w1 ⟨b, n, c, rfl, ho, hb1⟩
        have HO := Lib.hid (hown.out.below hb1 (Nat.le_refl _))
        have HY := Lib.hid ho.own
        have hb2 := on hbl hb1
        have hsz1 := hb1.size
        clear hown ho
        go_wp2_with (first
          | (at_builtin; go_must (refine wpList_appS (c := [.slice b n c]) Try.underlying35 infoInts rfl (by decide) (by decide) rfl _ _ _ _ _ HO.out HY.out (by simp [Value.oneCell']) hsz hsz1 (Nat.le_refl _) hb2 hle rfl rfl rfl rfl ?_); intro v' w2 hown' hb' hsz'))
        rw [← subsetsTo_succ] at hown'
        have HN := Lib.hid hown'
        clear hown'
        go_wp2
        go_roundw
        case rel => exact ⟨j + 1, by omega, by go_num, HN, hb'⟩
        case measure => simp [intOf]; omega
      · obtain rfl : P = j + 1 := by omega
        have HO := hown.out
        have hf : ∃ a n c, u3 = .slice a n c := by
          obtain ⟨fp, ⟨v, css, fps, hv, _, h1, _⟩, _⟩ := HO
          simp at hv
          subst hv
          obtain ⟨a, cap, hv, _⟩ := own_form h1
          exact ⟨_, _, _, hv⟩
        obtain ⟨a, n, c, rfl⟩ := hf
        rw [show subsetsTo j = colSubsets K by rw [HT.out]; rfl] at HO
        have HN := Lib.hid HO
        clear HO hown
        go_wp2_with (go_at_call 50; refine (l1In_any _ _ _ _).mono ?_; rintro e w' ⟨rfl, rfl⟩)
        go_ret
        exact ⟨_, _, _, rfl, HN.out, hbl⟩
  · replace hb : betw k 1 3 = false := by simpa using hb
    have HE := Lib.hid (show colSubsets k = [] by simp [colSubsets, hb])
    go_enter Try.func39, Try.ntmps39
    go_wp2_with fail
    go_loopw [3, 4] (fun v i wr => i = .int .i64 1 ∧ v = .slice (some ⟨w.heap.size, 0, none⟩) 0 0 ∧ wr = w.alloc (.cells #[] 24)) (fun _ _ _ => 0)
    case atStart => exact ⟨rfl, rfl, rfl⟩
    case round =>
      obtain ⟨rfl, rfl, rfl⟩ := hrel
      go_wp2_with (go_at_call 50; refine (l1In_any _ _ _ _).mono ?_; rintro e w' ⟨rfl, rfl⟩)
      go_ret
      exact ⟨_, _, _, rfl, by rw [HE.out]; have h0 := own_empty_S (E := 24) (o := oI) (Nat.le_refl w.heap.size); simpa [oII] using h0, (Below.refl _ _).alloc (Nat.le_refl _) _⟩

end Go.Proofs.Ytnemkajkidgfjaa
