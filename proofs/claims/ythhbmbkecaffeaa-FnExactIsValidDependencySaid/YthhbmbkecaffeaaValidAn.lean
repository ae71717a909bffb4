/- Contracts: whether an answer is valid. -/
import Derived.Test.YthhbmbkecaffeaaKAn
import Derived.Test.YthhbmbkecaffeaaRowB
namespace Go.Proofs.Ythhbmbkecaffeaa
open Go.RowKit
set_option linter.unusedVariables false
set_option linter.unusedSimpArgs false
set_option synthInstance.maxSize 2000
set_option synthInstance.maxHeartbeats 400000

/-- Columns: in range, ascending from p. -/
def colsFrom (n p : Int) : List Int → Bool
  | [] => true
  | v :: t => betw v 0 (n - 1) && decide (p < v) && colsFrom n v t
/-- Strictly ascending columns of so many. -/
def colsB (n : Int) (xs : List Int) : Bool := colsFrom n (-1) xs
theorem cols_at {n p : Int} {xs : List Int} {j : Nat} {x : Int} (hj : j < xs.length) (hx : xs.getD j 0 = x) : colsFrom n p (xs.drop j) = (betw x 0 (n - 1) && decide (p < x) && colsFrom n x (xs.drop (j + 1))) := by
  rw [drop_cons xs j hj, hx]; rfl
theorem cols_end {n p : Int} {xs : List Int} {j : Nat} (hj : xs.length ≤ j) : colsFrom n p (xs.drop j) = true := by
  rw [List.drop_eq_nil_of_le hj]; rfl
theorem betw_pos {x n : Int} (h : betw x 0 n = true) : 0 ≤ x := by
  simp only [betw, Bool.and_eq_true, decide_eq_true_eq] at h; omega
/-- What stands before place j. -/
def prevOf (xs : List Int) : Nat → Int
  | 0 => -1
  | j + 1 => xs.getD j 0
/-- Whether an answer is valid. -/
def validAn (a : DAn) : Bool := colsB 4 a.1 && rowsB a.1.length a.2 && ascB a.2

set_option maxHeartbeats 2000000 in
theorem validAn_impl (cs : List Value) (x : DAn) (w : World) (h : rAn.rep w cs x) :
    Calls Try.prog 77 #[.agg cs.toArray] w fun e w' => e = .returned (.bool (validAn x)) ∧ Below w.heap.size w w' := by
  obtain ⟨ub0, un0, uc0, ub1, un1, uc1, rfl, g0, g1⟩ := rAn_open h
  clear h
  obtain ⟨vs, rows⟩ := x
  simp only at g0 g1
  have i0 := rI_ints g0
  have t1 := rS_sl g1
  have hl := i0.len
  have hl1 := t1.len
  have hn := i0.small
  have hn1 := t1.small
  have HV := Lib.hid (show validAn (vs, rows) = (colsFrom 4 (prevOf vs 0) (vs.drop 0) && (rowsB un0 rows && ascB rows)) by rw [validAn, ← hl]; simp [colsB, prevOf, Bool.and_assoc])
  have hb0 : Below w.heap.size w w := Below.refl _ _
  go_enter Try.func77, Try.ntmps77
  obtain ⟨w1, hw1⟩ : ∃ W, W = w.alloc (.cells #[.slice ub0 un0 uc0, .slice ub1 un1 uc1] 60) := ⟨_, rfl⟩
  have z1 : Below w.heap.size w w1 := by rw [hw1]; exact (Below.refl _ _).alloc (Nat.le_refl _) _
  have s1 : w1.heap.size = w.heap.size + 1 := by rw [hw1]; simp
  have hb1 := on hb0 z1
  have b_0 : w1.cell? ⟨w.heap.size, 0, none⟩ = some (.slice ub0 un0 uc0) := by rw [hw1]; exact box_cell (Below.refl _ _) rfl
  have b_1 : w1.cell? ⟨w.heap.size, 1, none⟩ = some (.slice ub1 un1 uc1) := by rw [hw1]; exact box_cell (Below.refl _ _) rfl
  have raw1_b_0 := b_0
  have raw1_b_1 := b_1
  rw [hw1] at raw1_b_0 raw1_b_1
  go_wp2_with fail
  rw [← hw1]
  clear hw1
  clear raw1_b_0 raw1_b_1
  go_loopw [10] (fun k wr => ∃ j : Nat, j ≤ un0 ∧ k = .int .i64 j ∧ Hid (validAn (vs, rows) = (colsFrom 4 (prevOf vs j) (vs.drop j) && (rowsB un0 rows && ascB rows))) ∧ w1 = wr) (fun k _ => un0 - (intOf k).toNat)
  case atStart => exact ⟨0, Nat.zero_le _, rfl, HV.out, rfl⟩
  case round =>
    obtain ⟨j, hj, rfl, hE, rfl⟩ := hrel
    by_cases hlt : j < un0
    · obtain ⟨b0, o0, x, rfl, hc, hx, _, _⟩ := i0.get hlt
      have c0_lt : b0 < w.heap.size := cell_lt hc
      have c0 : w1.cell? ⟨b0, o0 + j, none⟩ = some (.int .i64 x) := (hb1.cell (p := ⟨b0, o0 + j, none⟩) c0_lt).trans hc
      have HA := Lib.hid (hE.out.trans (by rw [cols_at (by omega) hx.out]))
      clear hE HV hl
      by_cases hb : betw x 0 3 = true
      case neg =>
        replace hb : betw x 0 3 = false := by simpa using hb
        have HE := Lib.hid (show validAn (vs, rows) = false by rw [HA.out]; simp [hb])
        clear i0 t1 hl1
        go_wp2_with fail
        refine (within_any _ _ _ _).mono ?_
        rintro e w' ⟨rfl, rfl⟩
        go_wp2_with fail
        go_ret
        exact ⟨ret_bool HE.out.symm, hb1⟩
      have hx0 := betw_pos hb
      by_cases hj0 : j = 0
      · subst hj0
        have HE := Lib.hid (show validAn (vs, rows) = (colsFrom 4 (prevOf vs (0 + 1)) (vs.drop (0 + 1)) && (rowsB un0 rows && ascB rows)) by
          rw [HA.out, show prevOf vs (0 + 1) = x from hx.out, show betw x 0 (4 - 1) = true from hb, show decide (prevOf vs 0 < x) = true from decide_eq_true (show (-1 : Int) < x by omega)]; simp)
        have c0' : w1.cell? ⟨b0, o0, none⟩ = some (.int .i64 x) := c0
        clear i0 t1 hl1 hx HA
        go_wp2_with fail
        refine (within_any _ _ _ _).mono ?_
        rintro e w' ⟨rfl, rfl⟩
        go_wp2_with fail
        go_roundw
        case rel => exact ⟨1, by omega, rfl, HE.out, trivial⟩
        case measure => simp [intOf]; omega
      obtain ⟨i, rfl⟩ : ∃ i, j = i + 1 := ⟨j - 1, by omega⟩
      obtain ⟨b9, o9, y, hb9, hcy, hy, _, _⟩ := i0.get (show i < un0 by omega)
      simp at hb9
      obtain ⟨rfl, rfl⟩ := hb9
      have cy_lt : b0 < w.heap.size := cell_lt hcy
      have cy : w1.cell? ⟨b0, o0 + i, none⟩ = some (.int .i64 y) := (hb1.cell (p := ⟨b0, o0 + i, none⟩) cy_lt).trans hcy
      have hp : prevOf vs (i + 1) = y := hy.out
      rw [hp] at HA
      by_cases hxy : y < x
      · have HE := Lib.hid (show validAn (vs, rows) = (colsFrom 4 (prevOf vs (i + 1 + 1)) (vs.drop (i + 1 + 1)) && (rowsB un0 rows && ascB rows)) by
          rw [HA.out, show prevOf vs (i + 1 + 1) = x from hx.out, show betw x 0 (4 - 1) = true from hb, decide_eq_true hxy]; simp)
        clear i0 t1 hl1 hx HA hp hj0 hc hcy
        go_wp2_with fail
        refine (within_any _ _ _ _).mono ?_
        rintro e w' ⟨rfl, rfl⟩
        go_wp2_with fail
        go_roundw
        case rel => exact ⟨i + 1 + 1, by omega, by go_num, HE.out, trivial⟩
        case measure => simp [intOf]; omega
      · have HE := Lib.hid (show validAn (vs, rows) = false by rw [HA.out]; simp [hxy])
        clear i0 t1 hl1 hx HA hp hj0 hc hcy
        go_wp2_with fail
        refine (within_any _ _ _ _).mono ?_
        rintro e w' ⟨rfl, rfl⟩
        go_wp2_with fail
        go_ret
        exact ⟨ret_bool HE.out.symm, hb1⟩
    · have HW : Hid (validAn (vs, rows) = (rowsB un0 (rows.drop 0) && ascB rows)) := Lib.hid (by rw [hE.out, cols_end (by omega)]; rfl)
      clear hE HV i0 hl
      go_wp2_with fail
      go_loopw [36] (fun k wr => ∃ j : Nat, j ≤ un1 ∧ k = .int .i64 j ∧ Hid (validAn (vs, rows) = (rowsB un0 (rows.drop j) && ascB rows)) ∧ w1 = wr) (fun k _ => un1 - (intOf k).toNat)
      case atStart => exact ⟨0, Nat.zero_le _, rfl, HW.out, rfl⟩
      case round =>
        obtain ⟨j, hj, rfl, hE, rfl⟩ := hrel
        by_cases hlt : j < un1
        · obtain ⟨b0, o0, r1, m1, q1, x, rfl, hc, hx, hi, _⟩ := t1.row hlt
          have hclt : b0 < w.heap.size := cell_lt hc
          have c0 : w1.cell? ⟨b0, o0 + j, none⟩ = some (.slice r1 m1 q1) := (hb1.cell (p := ⟨b0, o0 + j, none⟩) hclt).trans hc
          have hcall := rowOk_any r1 m1 q1 x un0 _ (hi.below hb1)
          obtain ⟨t, ht⟩ : ∃ t, t = rowB x un0 := ⟨_, rfl⟩
          rw [← ht] at hcall
          have HC := Lib.hid hcall
          have HA := Lib.hid (hE.out.trans (by rw [rowsB_at hx.out, ← ht]))
          clear t1 hl1 hx hcall ht hE HW hi hc
          go_wp2_with fail
          refine (HC.out).mono ?_
          rintro e w' ⟨rfl, rfl⟩
          cases t with
          | true =>
            have HE := Lib.hid (show validAn (vs, rows) = (rowsB un0 (rows.drop (j + 1)) && ascB rows) by rw [HA.out]; simp)
            go_wp2_with fail
            go_roundw
            case rel => exact ⟨j + 1, by omega, by go_num, HE.out, trivial⟩
            case measure => simp [intOf]; omega
          | false =>
            have HE := Lib.hid (show validAn (vs, rows) = false by rw [HA.out]; simp)
            go_wp2_with fail
            go_ret
            exact ⟨ret_bool HE.out.symm, hb1⟩
        · have HE : Hid (validAn (vs, rows) = ascB rows) := Lib.hid (by rw [hE.out, rowsB_end (by omega)]; rfl)
          have t2 := t1.below hb1
          clear hE HW hl1 t1
          go_wp2_with fail
          refine (ascending_any _ _ _ _ _ t2).mono ?_
          rintro e w9 ⟨rfl, z9⟩
          replace z9 : Below w1.heap.size w1 w9 := z9.below _
          have s2 := z9.size
          have hb2 := on hb1 z9
          replace b_0 := (z9.cell (p := ⟨w.heap.size, 0, none⟩) (by simp only []; omega)).trans b_0
          replace b_1 := (z9.cell (p := ⟨w.heap.size, 1, none⟩) (by simp only []; omega)).trans b_1
          clear t2
          go_wp2_with fail
          go_ret
          exact ⟨ret_bool HE.out.symm, hb2⟩

end Go.Proofs.Ythhbmbkecaffeaa
