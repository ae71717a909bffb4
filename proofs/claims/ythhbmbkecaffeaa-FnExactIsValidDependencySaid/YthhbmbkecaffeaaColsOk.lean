/- Contracts: columns that are strictly ascending columns of a table. -/
import Derived.Test.YthhbmbkecaffeaaValidAn
import Derived.Test.YthhbmbkecaffeaaValidT
namespace Go.Proofs.Ythhbmbkecaffeaa
open Go.RowKit
set_option linter.unusedVariables false
set_option linter.unusedSimpArgs false
set_option synthInstance.maxSize 2000
set_option synthInstance.maxHeartbeats 400000

set_option maxHeartbeats 2000000 in
theorem columnsOk_any (a : Option Addr) (n cap : Nat) (xs : List Int) (m : Int) (w : World) (h : Ints w a n xs) (hm : I64 m) (hm1 : -9223372036854775808 < m) :
    Calls Try.prog 82 #[.slice a n cap, .int .i64 m] w fun e w' => e = .returned (.bool (colsB m xs)) ∧ w = w' := by
  have hl := h.len
  have hn := h.small
  have HV : Hid (colsB m xs = colsFrom m (prevOf xs 0) (xs.drop 0)) := Lib.hid (by simp [colsB, prevOf])
  obtain ⟨hm2, hm3⟩ := hm
  have hwm : IntKind.i64.wrap (m - 1) = m - 1 := IntWalk.i64_in _ (by omega)
  have hb0 : Below w.heap.size w w := Below.refl _ _
  go_enter Try.func82, Try.ntmps82
  go_wp2_with fail
  go_loopw [9] (fun k wr => ∃ j : Nat, j ≤ n ∧ k = .int .i64 j ∧ Hid (colsB m xs = colsFrom m (prevOf xs j) (xs.drop j)) ∧ w = wr) (fun k _ => n - (intOf k).toNat)
  case atStart => exact ⟨0, Nat.zero_le _, rfl, HV.out, rfl⟩
  case round =>
    obtain ⟨j, hj, rfl, hE, rfl⟩ := hrel
    by_cases hlt : j < n
    · obtain ⟨b0, o0, x, rfl, hc, hx, _, _⟩ := h.get hlt
      have c0_lt : b0 < w.heap.size := cell_lt hc
      have c0 : w.cell? ⟨b0, o0 + j, none⟩ = some (.int .i64 x) := (hb0.cell (p := ⟨b0, o0 + j, none⟩) c0_lt).trans hc
      have HA := Lib.hid (hE.out.trans (by rw [cols_at (by omega) hx.out]))
      clear hE HV hl
      have hcall := within_any x 0 (m - 1) w
      by_cases hb : betw x 0 (m - 1) = true
      case neg =>
        replace hb : betw x 0 (m - 1) = false := by simpa using hb
        have HE := Lib.hid (show colsB m xs = false by rw [HA.out]; simp [hb])
        rw [hb] at hcall
        have HC := Lib.hid hcall
        clear h hcall hb
        go_wp2_with fail
        refine (HC.out).mono ?_
        rintro e w' ⟨rfl, rfl⟩
        go_wp2_with fail
        go_ret
        exact ⟨ret_bool HE.out.symm, rfl⟩
      have hx0 := betw_pos hb
      have H0 := Lib.hid hb
      rw [hb] at hcall
      have HC := Lib.hid hcall
      clear hb hcall
      by_cases hj0 : j = 0
      · subst hj0
        have HE := Lib.hid (show colsB m xs = colsFrom m (prevOf xs (0 + 1)) (xs.drop (0 + 1)) by
          rw [HA.out, show prevOf xs (0 + 1) = x from hx.out, show betw x 0 (m - 1) = true from H0.out, show decide (prevOf xs 0 < x) = true from decide_eq_true (show (-1 : Int) < x by omega)]; simp)
        have c0' : w.cell? ⟨b0, o0, none⟩ = some (.int .i64 x) := c0
        clear h hx HA
        go_wp2_with fail
        refine (HC.out).mono ?_
        rintro e w' ⟨rfl, rfl⟩
        go_wp2_with fail
        go_roundw
        case rel => exact ⟨1, by omega, rfl, HE.out, trivial⟩
        case measure => simp [intOf]; omega
      obtain ⟨i, rfl⟩ : ∃ i, j = i + 1 := ⟨j - 1, by omega⟩
      obtain ⟨b9, o9, y, hb9, hcy, hy, _, _⟩ := h.get (show i < n by omega)
      simp at hb9
      obtain ⟨rfl, rfl⟩ := hb9
      have cy_lt : b0 < w.heap.size := cell_lt hcy
      have cy : w.cell? ⟨b0, o0 + i, none⟩ = some (.int .i64 y) := (hb0.cell (p := ⟨b0, o0 + i, none⟩) cy_lt).trans hcy
      have hp : prevOf xs (i + 1) = y := hy.out
      rw [hp] at HA
      by_cases hxy : y < x
      · have HE := Lib.hid (show colsB m xs = colsFrom m (prevOf xs (i + 1 + 1)) (xs.drop (i + 1 + 1)) by
          rw [HA.out, show prevOf xs (i + 1 + 1) = x from hx.out, show betw x 0 (m - 1) = true from H0.out, decide_eq_true hxy]; simp)
        clear h hx HA hp hj0 hc hcy
        go_wp2_with fail
        refine (HC.out).mono ?_
        rintro e w' ⟨rfl, rfl⟩
        go_wp2_with fail
        go_roundw
        case rel => exact ⟨i + 1 + 1, by omega, by go_num, HE.out, trivial⟩
        case measure => simp [intOf]; omega
      · have HE := Lib.hid (show colsB m xs = false by rw [HA.out]; simp [hxy])
        clear h hx HA hp hj0 hc hcy
        go_wp2_with fail
        refine (HC.out).mono ?_
        rintro e w' ⟨rfl, rfl⟩
        go_wp2_with fail
        go_ret
        exact ⟨ret_bool HE.out.symm, rfl⟩
    · have HW : Hid (colsB m xs = true) := Lib.hid (by rw [hE.out, cols_end (by omega)])
      clear hE HV h hl
      go_wp2_with fail
      go_ret
      exact ⟨ret_bool HW.out.symm, rfl⟩

/-- Columns of a valid table. -/
def colsT (t : DT) (xs : List Int) : Bool := colsB t.2.1 xs && validT t

set_option maxHeartbeats 2000000 in
theorem l10Cols_any (cs : List Value) (t : DT) (a : Option Addr) (n cap : Nat) (xs : List Int) (w : World) (ht : rT.rep w cs t) (h : Ints w a n xs) :
    Calls Try.prog 80 #[.agg cs.toArray, .slice a n cap] w fun e w' => e = .returned (.bool (colsT t xs)) ∧ Below w.heap.size w w' := by
  obtain ⟨ub, un, uc, rfl, hs, hi, g1⟩ := rT_open ht
  have hcv := fun W (hW : Below w.heap.size w W) => validT_spec _ t W (rT.mono ht hW)
  obtain ⟨s, m, rows⟩ := t
  simp only at hs hi g1 hcv
  have HVT := Lib.hid hcv
  have hl := h.len
  have hn := h.small
  obtain ⟨V, hV⟩ : ∃ V, V = validT (s, m, rows) := ⟨_, rfl⟩
  rw [← hV] at HVT
  obtain ⟨M, hM⟩ : ∃ M, IntKind.i64.wrap (m - 1) = M := ⟨_, rfl⟩
  have HV : Hid (colsT (s, m, rows) xs = (colsFrom (M + 1) (prevOf xs 0) (xs.drop 0) && V)) := Lib.hid (by
    by_cases hmin : m = -9223372036854775808
    · have hVf : V = false := by rw [hV, validT]; subst hmin; simp [betw]
      simp [colsT, ← hV, hVf]
    · have : M + 1 = m := by rw [← hM, IntWalk.i64_in _ (by unfold I64 at hi; omega)]; omega
      rw [this]; simp [colsT, colsB, prevOf, hV])
  clear ht hcv hV g1 hs hi
  have Hw := Lib.hid hM
  have hb0 : Below w.heap.size w w := Below.refl _ _
  go_enter Try.func80, Try.ntmps80
  obtain ⟨w1, hw1⟩ : ∃ W, W = w.alloc (.cells #[.string s, .int .i64 m, .slice ub un uc] 91) := ⟨_, rfl⟩
  have z1 : Below w.heap.size w w1 := by rw [hw1]; exact (Below.refl _ _).alloc (Nat.le_refl _) _
  have s1 : w1.heap.size = w.heap.size + 1 := by rw [hw1]; simp
  have hb1 := on hb0 z1
  have b_0 : w1.cell? ⟨w.heap.size, 0, none⟩ = some (.string s) := by rw [hw1]; exact box_cell (Below.refl _ _) rfl
  have b_1 : w1.cell? ⟨w.heap.size, 1, none⟩ = some (.int .i64 m) := by rw [hw1]; exact box_cell (Below.refl _ _) rfl
  have b_2 : w1.cell? ⟨w.heap.size, 2, none⟩ = some (.slice ub un uc) := by rw [hw1]; exact box_cell (Below.refl _ _) rfl
  have raw1_b_0 := b_0
  have raw1_b_1 := b_1
  have raw1_b_2 := b_2
  rw [hw1] at raw1_b_0 raw1_b_1 raw1_b_2
  go_wp2_with fail
  rw [← hw1]
  clear hw1
  clear raw1_b_0 raw1_b_1 raw1_b_2
  go_loopw [5] (fun k wr => ∃ j : Nat, j ≤ n ∧ k = .int .i64 j ∧ Hid (colsT (s, m, rows) xs = (colsFrom (M + 1) (prevOf xs j) (xs.drop j) && V)) ∧ Drew w1 wr) (fun k _ => n - (intOf k).toNat)
  case atStart => exact ⟨0, Nat.zero_le _, rfl, HV.out, Drew.refl _⟩
  case round =>
    obtain ⟨j, hj, rfl, hE, hdr⟩ := hrel
    have hlc := hdr
    replace hdr : Below w1.heap.size w1 wr := hdr.below _
    have s2 := hdr.size
    have hb2 := on hb1 hdr
    replace b_0 := (hdr.cell (p := ⟨w.heap.size, 0, none⟩) (by simp only []; omega)).trans b_0
    replace b_1 := (hdr.cell (p := ⟨w.heap.size, 1, none⟩) (by simp only []; omega)).trans b_1
    replace b_2 := (hdr.cell (p := ⟨w.heap.size, 2, none⟩) (by simp only []; omega)).trans b_2
    by_cases hlt : j < n
    · obtain ⟨b0, o0, x, rfl, hc, hx, _, _⟩ := h.get hlt
      have c0_lt : b0 < w.heap.size := cell_lt hc
      have c0 : wr.cell? ⟨b0, o0 + j, none⟩ = some (.int .i64 x) := (hb2.cell (p := ⟨b0, o0 + j, none⟩) c0_lt).trans hc
      have HA := Lib.hid (hE.out.trans (by rw [cols_at (by omega) hx.out, show M + 1 - 1 = M by omega]))
      clear hE HV hl
      have hcall := fun q => l1In_any x 0 M (wr.drewN q)
      by_cases hb : betw x 0 M = true
      case neg =>
        replace hb : betw x 0 M = false := by simpa using hb
        have HE := Lib.hid (show colsT (s, m, rows) xs = false by rw [HA.out]; simp [hb])
        rw [hb] at hcall
        have HC := Lib.hid hcall
        clear h hb hcall
        go_wp2_with fail
        go_quiet ((go_at_call 66; exact quiet_same (HC.out _)))
        go_wp2_with fail
        go_ret
        exact ⟨ret_bool HE.out.symm, onD hb2 ⟨_, rfl⟩⟩
      have hx0 := betw_pos hb
      have H0 := Lib.hid hb
      rw [hb] at hcall
      have HC := Lib.hid hcall
      clear hb hcall
      by_cases hj0 : j = 0
      · subst hj0
        have HE := Lib.hid (show colsT (s, m, rows) xs = (colsFrom (M + 1) (prevOf xs (0 + 1)) (xs.drop (0 + 1)) && V) by
          rw [HA.out, show prevOf xs (0 + 1) = x from hx.out, H0.out, show decide (prevOf xs 0 < x) = true from decide_eq_true (show (-1 : Int) < x by omega)]; simp)
        have c0' : wr.cell? ⟨b0, o0, none⟩ = some (.int .i64 x) := c0
        clear h hx HA
        go_wp2_with fail
        go_quiet ((go_at_call 66; exact quiet_same (HC.out _)))
        go_wp2_with fail
        go_roundw
        case rel => exact ⟨1, by omega, rfl, HE.out, hlc.step _⟩
        case measure => simp [intOf]; omega
      obtain ⟨i, rfl⟩ : ∃ i, j = i + 1 := ⟨j - 1, by omega⟩
      obtain ⟨b9, o9, y, hb9, hcy, hy, _, _⟩ := h.get (show i < n by omega)
      simp at hb9
      obtain ⟨rfl, rfl⟩ := hb9
      have cy_lt : b0 < w.heap.size := cell_lt hcy
      have cy : wr.cell? ⟨b0, o0 + i, none⟩ = some (.int .i64 y) := (hb2.cell (p := ⟨b0, o0 + i, none⟩) cy_lt).trans hcy
      have hp : prevOf xs (i + 1) = y := hy.out
      rw [hp] at HA
      have hi63 : IntKind.i64.wrap (i : Int) = (i : Int) := IntWalk.i64_in _ (by omega)
      by_cases hxy : y < x
      · have HE := Lib.hid (show colsT (s, m, rows) xs = (colsFrom (M + 1) (prevOf xs (i + 1 + 1)) (xs.drop (i + 1 + 1)) && V) by
          rw [HA.out, show prevOf xs (i + 1 + 1) = x from hx.out, H0.out, decide_eq_true hxy]; simp)
        clear h hx HA hp hj0 hc hcy
        go_wp2_with fail
        go_quiet ((go_at_call 66; exact quiet_same (HC.out _)))
        clear hi63
        go_wp2_with fail
        go_roundw
        case rel => exact ⟨i + 1 + 1, by omega, by go_num, HE.out, hlc.step _⟩
        case measure => simp [intOf]; omega
      · have HE := Lib.hid (show colsT (s, m, rows) xs = false by rw [HA.out]; simp [hxy])
        clear h hx HA hp hj0 hc hcy
        go_wp2_with fail
        go_quiet ((go_at_call 66; exact quiet_same (HC.out _)))
        clear hi63
        go_wp2_with fail
        go_ret
        exact ⟨ret_bool HE.out.symm, onD hb2 ⟨_, rfl⟩⟩
    · have HW : Hid (colsT (s, m, rows) xs = V) := Lib.hid (by rw [hE.out, cols_end (by omega)]; simp)
      clear hE HV h hl
      go_wp2_with fail
      refine (HVT.out _ hb2).mono ?_
      rintro e w9 ⟨rfl, z9⟩
      have s3 := z9.size
      have hb3 := on hb2 z9
      replace b_0 := (z9.cell (p := ⟨w.heap.size, 0, none⟩) (by simp only []; omega)).trans b_0
      replace b_1 := (z9.cell (p := ⟨w.heap.size, 1, none⟩) (by simp only []; omega)).trans b_1
      replace b_2 := (z9.cell (p := ⟨w.heap.size, 2, none⟩) (by simp only []; omega)).trans b_2
      go_wp2_with fail
      go_ret
      exact ⟨ret_bool HW.out.symm, hb3⟩

end Go.Proofs.Ythhbmbkecaffeaa
