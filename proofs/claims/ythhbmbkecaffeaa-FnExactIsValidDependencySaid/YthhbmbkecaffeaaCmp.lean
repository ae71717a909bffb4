/- Contracts: comparing rows of ints. -/
import Derived.Test.YthhbmbkecaffeaaBase
namespace Go.Proofs.Ythhbmbkecaffeaa
open Go.RowKit
set_option linter.unusedVariables false
set_option linter.unusedSimpArgs false

/-- Rows in the order of dictionaries: -1, 0, 1. -/
def cmpRows : List Int → List Int → Int
  | [], [] => 0
  | [], _ :: _ => -1
  | _ :: _, [] => 1
  | x :: xs, y :: ys => if x < y then -1 else if y < x then 1 else cmpRows xs ys
theorem cmpRows_rng : ∀ (a b : List Int), cmpRows a b = -1 ∨ cmpRows a b = 0 ∨ cmpRows a b = 1
  | [], [] => by simp [cmpRows]
  | [], _ :: _ => by simp [cmpRows]
  | _ :: _, [] => by simp [cmpRows]
  | x :: xs, y :: ys => by
    rw [cmpRows]
    split
    · exact .inl rfl
    · split
      · exact .inr (.inr rfl)
      · exact cmpRows_rng xs ys
theorem cmpRows_zero : ∀ (a b : List Int), cmpRows a b = 0 ↔ a = b
  | [], [] => by simp [cmpRows]
  | [], _ :: _ => by simp [cmpRows]
  | _ :: _, [] => by simp [cmpRows]
  | x :: xs, y :: ys => by
    rw [cmpRows]
    split
    · constructor
      · intro h; simp at h
      · intro h; simp at h; omega
    · split
      · constructor
        · intro h; simp at h
        · intro h; simp at h; omega
      · rw [cmpRows_zero xs ys]
        have : x = y := by omega
        simp [this]
theorem cmpRows_self (a : List Int) : cmpRows a a = 0 := (cmpRows_zero a a).2 rfl
theorem cmpRows_swap : ∀ (a b : List Int), cmpRows b a = - cmpRows a b
  | [], [] => by simp [cmpRows]
  | [], _ :: _ => by simp [cmpRows]
  | _ :: _, [] => by simp [cmpRows]
  | x :: xs, y :: ys => by
    rw [cmpRows, cmpRows]
    have ih := cmpRows_swap xs ys
    by_cases h1 : x < y
    · have h2 : ¬ y < x := by omega
      simp [h1, h2]
    · by_cases h2 : y < x
      · simp [h1, h2]
      · simp [h1, h2, ih]
theorem cmpRows_trans : ∀ (a b c : List Int), cmpRows a b = -1 → cmpRows b c = -1 → cmpRows a c = -1
  | [], [], c, h, _ => by simp [cmpRows] at h
  | [], _ :: _, [], _, h => by simp [cmpRows] at h
  | [], _ :: _, _ :: _, _, _ => by simp [cmpRows]
  | _ :: _, [], c, h, _ => by simp [cmpRows] at h
  | _ :: _, _ :: _, [], _, h => by simp [cmpRows] at h
  | x :: xs, y :: ys, z :: zs, h1, h2 => by
    rw [cmpRows] at h1 h2 ⊢
    by_cases hxy : x < y
    · by_cases hyz : y < z
      · rw [if_pos (by omega)]
      · rw [if_neg hyz] at h2
        by_cases hzy : z < y
        · rw [if_pos hzy] at h2; simp at h2
        · rw [if_pos (by omega)]
    · rw [if_neg hxy] at h1
      by_cases hyx : y < x
      · rw [if_pos hyx] at h1; simp at h1
      · rw [if_neg hyx] at h1
        have : x = y := by omega
        subst this
        by_cases hyz : x < z
        · rw [if_pos hyz]
        · rw [if_neg hyz] at h2 ⊢
          by_cases hzy : z < x
          · rw [if_pos hzy] at h2; simp at h2
          · rw [if_neg hzy] at h2 ⊢
            exact cmpRows_trans xs ys zs h1 h2

theorem cmp_lt {x y : Int} {a b : List Int} (h : x < y) : cmpRows (x :: a) (y :: b) = -1 := by rw [cmpRows, if_pos h]
theorem cmp_gt {x y : Int} {a b : List Int} (h : y < x) : cmpRows (x :: a) (y :: b) = 1 := by rw [cmpRows, if_neg (by omega), if_pos h]
theorem cmp_eq {x y : Int} {a b : List Int} (h : x = y) : cmpRows (x :: a) (y :: b) = cmpRows a b := by subst h; rw [cmpRows, if_neg (by omega), if_neg (by omega)]

set_option maxHeartbeats 800000 in
theorem cmp_spec (a b : Option Addr) (n m cap cap' : Nat) (xs ys : List Int) (w : World) (h : Ints w a n xs) (h' : Ints w b m ys) :
    Calls Try.prog 85 #[.slice a n cap, .slice b m cap'] w fun e w' => e = .returned (.int .i64 (cmpRows xs ys)) ∧ Drew w w' := by
  have hn := h.small
  have hm := h'.small
  have hl := h.len
  have hl' := h'.len
  go_enter Try.func85, Try.ntmps85
  go_wp2
  go_loopw [5] (fun i wr => ∃ j : Nat, j ≤ n ∧ j ≤ m ∧ i = .int .i64 j ∧ Hid (cmpRows xs ys = cmpRows (xs.drop j) (ys.drop j)) ∧ Drew w wr) (fun i _ => n - (intOf i).toNat)
  case atStart => exact ⟨0, Nat.zero_le _, Nat.zero_le _, rfl, rfl, Drew.refl _⟩
  case round =>
    obtain ⟨j, hj, hjm, rfl, hE, hdr⟩ := hrel
    replace h := h.drew hdr
    replace h' := h'.drew hdr
    by_cases hlt : j < n
    · by_cases hlm : j < m
      · obtain ⟨b1, o1, x, rfl, hc1, hx, _, _⟩ := h.get hlt
        obtain ⟨b2, o2, y, rfl, hc2, hy, _, _⟩ := h'.get hlm
        have HD := Lib.hid (show cmpRows xs ys = cmpRows (x :: xs.drop (j + 1)) (y :: ys.drop (j + 1)) by rw [hE.out, h.drop hlt hx, h'.drop hlm hy])
        clear hl hl' h h'
        by_cases h1 : x < y
        · have HE := Lib.hid (HD.out.trans (cmp_lt h1))
          go_wp2
          go_quiet (fail)
          go_wp2
          go_ret
          exact ⟨ret_int HE.out.symm, by first | exact hdr.step _ | exact (hdr.step _).step _⟩
        · by_cases h2 : y < x
          · have HE := Lib.hid (HD.out.trans (cmp_gt h2))
            go_wp2
            go_quiet (fail)
            go_wp2
            go_quiet (fail)
            go_wp2
            go_ret
            exact ⟨ret_int HE.out.symm, by first | exact hdr.step _ | exact (hdr.step _).step _⟩
          · have HE := Lib.hid (HD.out.trans (cmp_eq (show x = y by omega)))
            go_wp2
            go_quiet (fail)
            go_wp2
            go_quiet (fail)
            go_wp2
            go_roundw
            case rel => exact ⟨j + 1, by omega, by omega, by go_num, HE.out, by first | exact hdr.step _ | exact (hdr.step _).step _⟩
            case measure => simp [intOf]; omega
      · -- the second is at its end
        have HE := Lib.hid (show cmpRows xs ys = 1 by
          rw [hE.out, List.drop_of_length_le (l := ys) (by omega), drop_cons xs j (by omega)]; rfl)
        have hmn : m < n := by omega
        clear hl hl' h h'
        go_wp2
        go_ret
        exact ⟨ret_int HE.out.symm, hdr⟩
    · obtain rfl : j = n := by omega
      by_cases hlm : j < m
      · have HE := Lib.hid (show cmpRows xs ys = -1 by
          rw [hE.out, List.drop_of_length_le (l := xs) (by omega), drop_cons ys j (by omega)]; rfl)
        clear hl hl' h h'
        go_wp2
        go_ret
        exact ⟨ret_int HE.out.symm, hdr⟩
      · have HE := Lib.hid (show cmpRows xs ys = 0 by
          rw [hE.out, List.drop_of_length_le (l := xs) (by omega), List.drop_of_length_le (l := ys) (by omega)]; rfl)
        clear hl hl' h h'
        go_wp2
        go_ret
        exact ⟨ret_int HE.out.symm, hdr⟩

end Go.Proofs.Ythhbmbkecaffeaa
