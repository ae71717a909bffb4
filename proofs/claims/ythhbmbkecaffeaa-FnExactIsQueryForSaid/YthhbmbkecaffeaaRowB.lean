/- Contracts: rows of ints: in range, ascending. -/
import Derived.Test.YthhbmbkecaffeaaKII
import Derived.Test.YthhbmbkecaffeaaCmp
import Derived.Test.YthhbmbkecaffeaaDeg
namespace Go.Proofs.Ythhbmbkecaffeaa
open Go.RowKit
set_option linter.unusedVariables false
set_option linter.unusedSimpArgs false

/-- A row: all values in range, so many. -/
def rowB (row : List Int) (n : Int) : Bool := row.all (fun v => betw v 0 9) && decide ((row.length : Int) = n)
def rowsB (n : Int) (rows : List (List Int)) : Bool := rows.all (fun r => rowB r n)
/-- Rows strictly ascending. -/
def ascB : List (List Int) → Bool
  | a :: b :: t => decide (cmpRows a b < 0) && ascB (b :: t)
  | _ => true
theorem all_at {p : Int → Bool} {xs : List Int} {j : Nat} {x : Int} (hj : j < xs.length) (hx : xs.getD j 0 = x) : (xs.drop j).all p = (p x && (xs.drop (j + 1)).all p) := by
  rw [drop_cons xs j hj, hx]; rfl
theorem all_end {p : Int → Bool} {xs : List Int} {j : Nat} (hj : xs.length ≤ j) : (xs.drop j).all p = true := by
  rw [List.drop_eq_nil_of_le hj]; rfl
theorem drop_at {α : Type} {xs : List α} {j : Nat} {x : α} (h : xs[j]? = some x) : xs.drop j = x :: xs.drop (j + 1) := by
  obtain ⟨h1, rfl⟩ := List.getElem?_eq_some_iff.1 h
  exact List.drop_eq_getElem_cons h1
theorem rowsB_at {n : Int} {rows : List (List Int)} {j : Nat} {r : List Int} (h : rows[j]? = some r) : rowsB n (rows.drop j) = (rowB r n && rowsB n (rows.drop (j + 1))) := by
  rw [drop_at h]; rfl
theorem rowsB_end {n : Int} {rows : List (List Int)} {j : Nat} (hj : rows.length ≤ j) : rowsB n (rows.drop j) = true := by
  rw [List.drop_eq_nil_of_le hj]; rfl
theorem ascB_at {rows : List (List Int)} {j : Nat} {r s : List Int} (h : rows[j]? = some r) (h' : rows[j + 1]? = some s) : ascB (rows.drop j) = (decide (cmpRows r s < 0) && ascB (rows.drop (j + 1))) := by
  rw [drop_at h, drop_at h']; rfl
theorem ascB_end {rows : List (List Int)} {j : Nat} (hj : rows.length ≤ j + 1) : ascB (rows.drop j) = true := by
  have : (rows.drop j).length ≤ 1 := by rw [List.length_drop]; omega
  match h : rows.drop j, this with
  | [], _ => rfl
  | [a], _ => rfl

theorem rowB_no {row : List Int} {n : Int} {j : Nat} (h : rowB row n = ((row.drop j).all (fun v => betw v 0 9) && decide ((row.length : Int) = n))) {x : Int} (hj : j < row.length) (hx : row.getD j 0 = x) (hb : betw x 0 9 = false) : rowB row n = false := by
  rw [h, all_at hj hx, hb]; rfl

set_option maxHeartbeats 400000 in
theorem rowOk_any (a : Option Addr) (n cap : Nat) (xs : List Int) (m : Int) (w : World) (h : Ints w a n xs) :
    Calls Try.prog 116 #[.slice a n cap, .int .i64 m] w fun e w' => e = .returned (.bool (rowB xs m)) ∧ w = w' := by
  have hn := h.small
  have hl := h.len
  go_enter Try.func116, Try.ntmps116
  go_wp2
  go_loop [9] (fun k => ∃ j : Nat, j ≤ n ∧ k = .int .i64 j ∧ Hid (rowB xs m = ((xs.drop j).all (fun v => betw v 0 9) && decide ((xs.length : Int) = m)))) (fun k => n - (intOf k).toNat)
  case atStart => exact ⟨0, Nat.zero_le _, rfl, by simp [Hid, rowB]⟩
  case round =>
    obtain ⟨j, hj, rfl, hE⟩ := hrel
    by_cases hlt : j < n
    · obtain ⟨b, off, x, rfl, hc, hx, _, _⟩ := h.get hlt
      by_cases hb : betw x 0 9 = true
      · have HE := Lib.hid (hE.out.trans (show _ = ((xs.drop (j + 1)).all (fun v => betw v 0 9) && decide ((xs.length : Int) = m)) by rw [all_at (by omega) hx.out, hb, Bool.true_and]))
        clear h hl
        go_wp2_with fail
        refine (within_any _ _ _ _).mono ?_
        rintro e w' ⟨rfl, rfl⟩
        go_wp2_with fail
        go_round
        case rel => exact ⟨j + 1, by omega, by go_num, HE.out⟩
        case measure => simp [intOf]; omega
      · replace hb : betw x 0 9 = false := by simpa using hb
        have HE := Lib.hid (rowB_no hE.out (by omega) hx.out hb)
        clear h hl
        go_wp2_with fail
        refine (within_any _ _ _ _).mono ?_
        rintro e w' ⟨rfl, rfl⟩
        go_wp2_with fail
        go_ret
        exact ⟨ret_bool HE.out.symm, rfl⟩
    · have HE := Lib.hid (show decide ((n : Int) = m) = rowB xs m by rw [hE.out, all_end (by omega), hl, Bool.true_and])
      clear h hl
      go_wp2_with fail
      go_ret
      exact ⟨ret_bool (by rw [← HE.out]; rfl), rfl⟩

set_option maxHeartbeats 400000 in
theorem l4Row_any (a : Option Addr) (n cap : Nat) (xs : List Int) (m : Int) (w : World) (h : Ints w a n xs) :
    Calls Try.prog 114 #[.slice a n cap, .int .i64 m] w fun e w' => e = .returned (.bool (rowB xs m)) ∧ w = w' := by
  have hn := h.small
  have hl := h.len
  go_enter Try.func114, Try.ntmps114
  go_wp2
  go_loop [5] (fun k => ∃ j : Nat, j ≤ n ∧ k = .int .i64 j ∧ Hid (rowB xs m = ((xs.drop j).all (fun v => betw v 0 9) && decide ((xs.length : Int) = m)))) (fun k => n - (intOf k).toNat)
  case atStart => exact ⟨0, Nat.zero_le _, rfl, by simp [Hid, rowB]⟩
  case round =>
    obtain ⟨j, hj, rfl, hE⟩ := hrel
    by_cases hlt : j < n
    · obtain ⟨b, off, x, rfl, hc, hx, _, _⟩ := h.get hlt
      by_cases hb : betw x 0 9 = true
      · have HE := Lib.hid (hE.out.trans (show _ = ((xs.drop (j + 1)).all (fun v => betw v 0 9) && decide ((xs.length : Int) = m)) by rw [all_at (by omega) hx.out, hb, Bool.true_and]))
        clear h hl
        go_wp2_with fail
        refine (l1In_any _ _ _ _).mono ?_
        rintro e w' ⟨rfl, rfl⟩
        go_wp2_with fail
        go_round
        case rel => exact ⟨j + 1, by omega, by go_num, HE.out⟩
        case measure => simp [intOf]; omega
      · replace hb : betw x 0 9 = false := by simpa using hb
        have HE := Lib.hid (rowB_no hE.out (by omega) hx.out hb)
        clear h hl
        go_wp2_with fail
        refine (l1In_any _ _ _ _).mono ?_
        rintro e w' ⟨rfl, rfl⟩
        go_wp2_with fail
        go_ret
        exact ⟨ret_bool HE.out.symm, rfl⟩
    · have HE := Lib.hid (show decide ((n : Int) = m) = rowB xs m by rw [hE.out, all_end (by omega), hl, Bool.true_and])
      clear h hl
      go_wp2_with fail
      go_ret
      exact ⟨ret_bool (by rw [← HE.out]; rfl), rfl⟩

theorem isNaN_any (x : Int) (w : World) :
    Calls Try.prog 136 #[.int .i64 x] w fun e w' => e = .returned (.bool false) ∧ w = w' := by
  go_enter Try.func136, Try.ntmps136
  go_wp2
  go_ret
  exact ⟨rfl, rfl⟩
/-- Numbers compared. -/
def cmpI (x y : Int) : Int := if x < y then -1 else if y < x then 1 else 0
theorem cmpI_any (x y : Int) (w : World) :
    Calls Try.prog 135 #[.int .i64 x, .int .i64 y] w fun e w' => e = .returned (.int .i64 (cmpI x y)) ∧ w = w' := by
  have HE1 := Lib.hid (show x < y → cmpI x y = -1 from fun h => by simp [cmpI, h])
  have HE2 := Lib.hid (show y < x → cmpI x y = 1 from fun h => by simp only [cmpI]; rw [if_neg (by omega), if_pos h])
  have HE3 := Lib.hid (show ¬ x < y → ¬ y < x → cmpI x y = 0 from fun h h' => by simp [cmpI, h, h'])
  go_enter Try.func135, Try.ntmps135
  go_wp2_with fail
  refine (isNaN_any _ _).mono ?_
  rintro e w' ⟨rfl, rfl⟩
  go_wp2_with fail
  refine (isNaN_any _ _).mono ?_
  rintro e w' ⟨rfl, rfl⟩
  by_cases h1 : x < y
  · go_wp2_with fail
    go_ret
    exact ⟨ret_int (HE1.out (by omega)).symm, rfl⟩
  · by_cases h2 : y < x
    · go_wp2_with fail
      go_ret
      exact ⟨ret_int (HE2.out (by omega)).symm, rfl⟩
    · go_wp2_with fail
      go_ret
      exact ⟨ret_int (HE3.out (by omega) (by omega)).symm, rfl⟩

set_option maxHeartbeats 800000 in
theorem compare_any (a b : Option Addr) (n m cap cap' : Nat) (xs ys : List Int) (w : World) (h : Ints w a n xs) (h' : Ints w b m ys) :
    Calls Try.prog 134 #[.slice a n cap, .slice b m cap'] w fun e w' => e = .returned (.int .i64 (cmpRows xs ys)) ∧ w = w' := by
  have hn := h.small
  have hm := h'.small
  have hl := h.len
  have hl' := h'.len
  go_enter Try.func134, Try.ntmps134
  go_wp2
  go_loop [11] (fun i => ∃ j : Nat, j ≤ n ∧ j ≤ m ∧ i = .int .i64 j ∧ Hid (cmpRows xs ys = cmpRows (xs.drop j) (ys.drop j))) (fun i => n - (intOf i).toNat)
  case atStart => exact ⟨0, Nat.zero_le _, Nat.zero_le _, rfl, rfl⟩
  case round =>
    obtain ⟨j, hj, hjm, rfl, hE⟩ := hrel
    by_cases hlt : j < n
    · by_cases hlm : j < m
      · obtain ⟨b1, o1, x, rfl, hc1, hx, _, _⟩ := h.get hlt
        obtain ⟨b2, o2, y, rfl, hc2, hy, _, _⟩ := h'.get hlm
        have HD := Lib.hid (show cmpRows xs ys = cmpRows (x :: xs.drop (j + 1)) (y :: ys.drop (j + 1)) by rw [hE.out, h.drop hlt hx, h'.drop hlm hy])
        have hcall := cmpI_any x y w
        clear hl hl' h h'
        by_cases h1 : x < y
        · have HE := Lib.hid (HD.out.trans (cmp_lt h1))
          rw [show cmpI x y = -1 by simp [cmpI, h1]] at hcall
          have HC := Lib.hid hcall
          clear hcall h1
          go_wp2_with fail
          refine (HC.out).mono ?_
          rintro e w' ⟨rfl, rfl⟩
          go_wp2_with fail
          go_ret
          exact ⟨ret_int HE.out.symm, rfl⟩
        · by_cases h2 : y < x
          · have HE := Lib.hid (HD.out.trans (cmp_gt h2))
            rw [show cmpI x y = 1 by simp [cmpI, h1, h2]] at hcall
            have HC := Lib.hid hcall
            clear hcall h1 h2
            go_wp2_with fail
            refine (HC.out).mono ?_
            rintro e w' ⟨rfl, rfl⟩
            go_wp2_with fail
            go_ret
            exact ⟨ret_int HE.out.symm, rfl⟩
          · have HE := Lib.hid (HD.out.trans (cmp_eq (show x = y by omega)))
            rw [show cmpI x y = 0 by simp [cmpI, h1, h2]] at hcall
            have HC := Lib.hid hcall
            clear hcall h1 h2
            go_wp2_with fail
            refine (HC.out).mono ?_
            rintro e w' ⟨rfl, rfl⟩
            go_wp2_with fail
            go_round
            case rel => exact ⟨j + 1, by omega, by omega, by go_num, HE.out⟩
            case measure => simp [intOf]; omega
      · have HE := Lib.hid (show cmpRows xs ys = 1 by
          rw [hE.out, List.drop_of_length_le (l := ys) (by omega), drop_cons xs j (by omega)]; rfl)
        have hmn : m ≤ j := by omega
        obtain ⟨b1, o1, x, rfl, hc1, hx, _, _⟩ := h.get hlt
        clear hl hl' h h' hjm hlm
        go_wp2_with fail
        go_ret
        exact ⟨ret_int HE.out.symm, rfl⟩
    · obtain rfl : j = n := by omega
      by_cases hlm : j < m
      · have HE := Lib.hid (show cmpRows xs ys = -1 by
          rw [hE.out, List.drop_of_length_le (l := xs) (by omega), drop_cons ys j (by omega)]; rfl)
        clear hl hl' h h'
        go_wp2_with fail
        go_ret
        exact ⟨ret_int HE.out.symm, rfl⟩
      · have HE := Lib.hid (show cmpRows xs ys = 0 by
          rw [hE.out, List.drop_of_length_le (l := xs) (by omega), List.drop_of_length_le (l := ys) (by omega)]; rfl)
        clear hl hl' h h'
        go_wp2_with fail
        go_ret
        exact ⟨ret_int HE.out.symm, rfl⟩

theorem cmpRows_any (a b : Option Addr) (n m cap cap' : Nat) (xs ys : List Int) (w : World) (h : Ints w a n xs) (h' : Ints w b m ys) :
    Calls Try.prog 130 #[.slice a n cap, .slice b m cap'] w fun e w' => e = .returned (.int .i64 (cmpRows xs ys)) ∧ w = w' := by
  go_enter Try.func130, Try.ntmps130
  go_wp2_with fail
  refine (compare_any _ _ _ _ _ _ _ _ _ h h').mono ?_
  rintro e w' ⟨rfl, rfl⟩
  go_wp2_with fail
  go_ret
  exact ⟨rfl, rfl⟩

set_option maxHeartbeats 800000 in
theorem ascending_any (a : Option Addr) (n cap : Nat) (xss : List (List Int)) (w : World) (h : Sl rI w a n xss) :
    Calls Try.prog 117 #[.slice a n cap] w fun e w' => e = .returned (.bool (ascB xss)) ∧ Drew w w' := by
  have hn := h.small
  have hl := h.len
  go_enter Try.func117, Try.ntmps117
  go_wp2
  go_loopw [3] (fun k wr => ∃ j : Nat, j ≤ n ∧ k = .int .i64 ((j : Int) + 1) ∧ Hid (ascB xss = ascB (xss.drop j)) ∧ Drew w wr) (fun k _ => n + 1 - (intOf k).toNat)
  case atStart => exact ⟨0, Nat.zero_le _, rfl, rfl, Drew.refl _⟩
  case round =>
    obtain ⟨j, hj, rfl, hE, hdr⟩ := hrel
    replace h := h.drew hdr
    by_cases hlt : j + 1 < n
    · obtain ⟨b1, o1, r1, m1, q1, x, rfl, hc1, hx, hi, _⟩ := h.row (show j < n by omega)
      obtain ⟨b2, o2, r2, m2, q2, y, hb2, hc2, hy, hi', _⟩ := h.row hlt
      simp at hb2
      obtain ⟨rfl, rfl⟩ := hb2
      have hcall := fun q => cmpRows_any r1 r2 m1 m2 q1 q2 x y (wr.drewN q) (hi.drewN q) (hi'.drewN q)
      obtain ⟨c, hc⟩ : ∃ c, c = cmpRows x y := ⟨_, rfl⟩
      rw [← hc] at hcall
      have HC := Lib.hid hcall
      have HA := Lib.hid (hE.out.trans (ascB_at hx.out hy.out))
      rw [← hc] at HA
      have e1 : ((j : Int) + 1 - 1) = (j : Int) := by omega
      have hk : ((j : Int) + 1) < (n : Int) := by omega
      have hc2' : wr.cell? ⟨b1, o1 + (j + 1), none⟩ = some (.slice r2 m2 q2) := hc2
      clear h hl hi hi' hcall hc hx hy hE
      by_cases h0 : c < 0
      · have HE := Lib.hid (show ascB xss = ascB (xss.drop (j + 1)) by rw [HA.out]; simp [h0])
        go_wp2_with fail
        go_quiet ((go_at_call 130; exact quiet_same (HC.out _)))
        go_wp2_with fail
        go_roundw
        case rel => exact ⟨j + 1, by omega, by go_num, HE.out, hdr.step _⟩
        case measure => simp [intOf]; omega
      · have HE := Lib.hid (show ascB xss = false by rw [HA.out]; simp [h0])
        go_wp2_with fail
        go_quiet ((go_at_call 130; exact quiet_same (HC.out _)))
        go_wp2_with fail
        go_ret
        exact ⟨ret_bool HE.out.symm, hdr.step _⟩
    · have HE := Lib.hid (hE.out.trans (ascB_end (by omega)))
      have hk : ¬ ((j : Int) + 1) < (n : Int) := by omega
      clear h hl hE
      go_wp2_with fail
      go_ret
      exact ⟨ret_bool HE.out.symm, hdr⟩

end Go.Proofs.Ythhbmbkecaffeaa
