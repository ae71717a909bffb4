/- Contracts: whether a number is among some. -/
import Derived.Test.YthhbmbkecaffeaaBase
namespace Go.Proofs.Ythhbmbkecaffeaa
open Go.RowKit
set_option linter.unusedVariables false
set_option linter.unusedSimpArgs false

/-- Whether x is among xs. -/
def has (xs : List Int) (x : Int) : Bool := decide (x ∈ xs)
theorem has_take_no {xs : List Int} {j : Nat} {x : Int} (h : x ∉ xs.take j) (hj : xs.length ≤ j) : has xs x = false := by
  rw [List.take_of_length_le hj] at h
  simpa [has] using h
theorem has_yes {xs : List Int} {j : Nat} {x : Int} (hj : j < xs.length) (h : xs.getD j 0 = x) : has xs x = true := by
  have : xs.getD j 0 ∈ xs := by rw [List.getD_eq_getElem?_getD, List.getElem?_eq_getElem hj]; exact List.getElem_mem hj
  rw [h] at this
  simpa [has] using this
theorem not_mem_snoc {xs : List Int} {j : Nat} {x y : Int} (h : x ∉ xs.take j) (hj : j < xs.length) (hy : xs.getD j 0 = y) (hne : y ≠ x) : x ∉ xs.take (j + 1) := by
  rw [take_snoc xs j hj, hy]
  simp only [List.mem_append, List.mem_singleton]
  rintro (h' | h')
  · exact h h'
  · exact hne h'.symm

set_option maxHeartbeats 400000 in
theorem l7Has_any (a : Option Addr) (n cap : Nat) (xs : List Int) (x : Int) (w : World) (h : Ints w a n xs) :
    Calls Try.prog 81 #[.slice a n cap, .int .i64 x] w fun e w' => e = .returned (.bool (has xs x)) ∧ w = w' := by
  have hn := h.small
  have hl := h.len
  go_enter Try.func81, Try.ntmps81
  go_wp2
  go_loop [5] (fun i => ∃ j : Nat, j ≤ n ∧ i = .int .i64 j ∧ Hid (x ∉ xs.take j)) (fun i => n - (intOf i).toNat)
  case atStart => exact ⟨0, Nat.zero_le _, rfl, by simp [Hid]⟩
  case round =>
    obtain ⟨j, hj, rfl, hE⟩ := hrel
    by_cases hlt : j < n
    · obtain ⟨b, off, y, rfl, hc, hy, hy1, hy2⟩ := h.get hlt
      by_cases hyx : y = x
      · have HE := Lib.hid (has_yes (by omega) (hy.out.trans hyx))
        subst hyx
        clear h hl
        go_wp2
        go_ret
        exact ⟨ret_bool HE.out.symm, rfl⟩
      · have HE := Lib.hid (not_mem_snoc hE.out (by omega) hy.out hyx)
        have hne : (y == x) = false := by rw [beq_eq_false_iff_ne]; exact hyx
        clear h hl hyx
        go_wp2
        go_round
        case rel => exact ⟨j + 1, by omega, by go_num, HE.out⟩
        case measure => simp [intOf]; omega
    · have HE := Lib.hid (has_take_no hE.out (by omega))
      clear h hl
      go_wp2
      go_ret
      exact ⟨ret_bool HE.out.symm, rfl⟩

set_option maxHeartbeats 400000 in
theorem index_any (a : Option Addr) (n cap : Nat) (xs : List Int) (x : Int) (w : World) (h : Ints w a n xs) :
    Calls Try.prog 120 #[.slice a n cap, .int .i64 x] w fun e w' => ∃ r : Int, e = .returned (.int .i64 r) ∧ decide (0 ≤ r) = has xs x ∧ w = w' := by
  have hn := h.small
  have hl := h.len
  go_enter Try.func120, Try.ntmps120
  go_wp2
  go_loop [5, 8] (fun _ i => ∃ j : Nat, j ≤ n ∧ i = .int .i64 j ∧ Hid (x ∉ xs.take j)) (fun _ i => n - (intOf i).toNat)
  case atStart => exact ⟨0, Nat.zero_le _, rfl, by simp [Hid]⟩
  case round =>
    obtain ⟨j, hj, rfl, hE⟩ := hrel
    by_cases hlt : j < n
    · obtain ⟨b, off, y, rfl, hc, hy, hy1, hy2⟩ := h.get hlt
      by_cases hyx : y = x
      · have HE := Lib.hid (has_yes (by omega) (hy.out.trans hyx))
        subst hyx
        clear h hl
        go_wp2
        go_ret
        exact ⟨_, rfl, by rw [HE.out]; simp, rfl⟩
      · have HE := Lib.hid (not_mem_snoc hE.out (by omega) hy.out hyx)
        have hne : (x == y) = false := by rw [beq_eq_false_iff_ne]; exact fun e => hyx e.symm
        clear h hl hyx
        go_wp2
        go_round
        case rel => exact ⟨j + 1, by omega, by go_num, HE.out⟩
        case measure => simp [intOf]; omega
    · have HE := Lib.hid (has_take_no hE.out (by omega))
      clear h hl
      go_wp2
      go_ret
      exact ⟨_, rfl, by rw [HE.out]; rfl, rfl⟩

set_option maxHeartbeats 400000 in
theorem contains_any (a : Option Addr) (n cap : Nat) (xs : List Int) (x : Int) (w : World) (h : Ints w a n xs) :
    Calls Try.prog 83 #[.slice a n cap, .int .i64 x] w fun e w' => e = .returned (.bool (has xs x)) ∧ w = w' := by
  go_enter Try.func83, Try.ntmps83
  go_wp2_with fail
  refine (index_any _ _ _ _ _ _ h).mono ?_
  rintro e w' ⟨r, rfl, hr, rfl⟩
  have HR := Lib.hid hr
  clear hr
  go_wp2_with fail
  go_ret
  exact ⟨ret_bool HR.out, rfl⟩

end Go.Proofs.Ythhbmbkecaffeaa
