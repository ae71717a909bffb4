/- Contracts: whether an answer is valid, by the reference. -/
import Derived.Test.YtogblmfmmlbahaaValidAn
namespace Go.Proofs.Ytogblmfmmlbahaa
open Go.RowKit
set_option linter.unusedVariables false
set_option linter.unusedSimpArgs false
set_option synthInstance.maxSize 2000
set_option synthInstance.maxHeartbeats 400000

set_option maxHeartbeats 2000000 in
theorem validAn_spec (cs : List Value) (x : DAn) (w : World) (h : rAn.rep w cs x) :
    Calls Try.prog 33 #[.agg cs.toArray] w fun e w' => e = .returned (.bool (validAn x)) ∧ Below w.heap.size w w' := by
  obtain ⟨ub0, un0, uc0, ub1, un1, uc1, rfl, g0, g1⟩ := rAn_open h
  clear h
  obtain ⟨vs, rows⟩ := x
  simp only at g0 g1
  have i0 := rI_ints g0
  have t1 := rS_sl g1
  have hl := i0.len
  have hl1 := t1.len
  have hn := i0.small
  have hn1 := t1.small
  have HV := Lib.hid (show validAn (vs, rows) = (colsFrom 4 (prevOf vs 0) (vs.drop 0) && (rowsB un0 rows && ascB rows)) by rw [validAn, ← hl]; simp [colsB, prevOf, Bool.and_assoc])
  have hb0 : Below w.heap.size w w := Below.refl _ _
  go_enter Try.func33, Try.ntmps33
  obtain ⟨w1, hw1⟩ : ∃ W, W = w.alloc (.cells #[.slice ub0 un0 uc0, .slice ub1 un1 uc1] 31) := ⟨_, rfl⟩
  have z1 : Below w.heap.size w w1 := by rw [hw1]; exact (Below.refl _ _).alloc (Nat.le_refl _) _
  have s1 : w1.heap.size = w.heap.size + 1 := by rw [hw1]; simp
  have hb1 := on hb0 z1
  have b_0 : w1.cell? ⟨w.heap.size, 0, none⟩ = some (.slice ub0 un0 uc0) := by rw [hw1]; exact box_cell (Below.refl _ _) rfl
  have b_1 : w1.cell? ⟨w.heap.size, 1, none⟩ = some (.slice ub1 un1 uc1) := by rw [hw1]; exact box_cell (Below.refl _ _) rfl
  have raw1_b_0 := b_0
  have raw1_b_1 := b_1
  rw [hw1] at raw1_b_0 raw1_b_1
  go_wp2_with fail
  rw [← hw1]
  clear hw1
  clear raw1_b_0 raw1_b_1
  go_loopw [3] (fun k wr => ∃ j : Nat, j ≤ un0 ∧ k = .int .i64 j ∧ Hid (validAn (vs, rows) = (colsFrom 4 (prevOf vs j) (vs.drop j) && (rowsB un0 rows && ascB rows))) ∧ Drew w1 wr) (fun k _ => un0 - (intOf k).toNat)
  case atStart => exact ⟨0, Nat.zero_le _, rfl, HV.out, Drew.refl _⟩
  case round =>
    obtain ⟨j, hj, rfl, hE, hdr⟩ := hrel
    have hlc := hdr
    replace hdr : Below w1.heap.size w1 wr := hdr.below _
    have s2 := hdr.size
    have hb2 := on hb1 hdr
    replace b_0 := (hdr.cell (p := ⟨w.heap.size, 0, none⟩) (by simp only []; omega)).trans b_0
    replace b_1 := (hdr.cell (p := ⟨w.heap.size, 1, none⟩) (by simp only []; omega)).trans b_1
    by_cases hlt : j < un0
    · obtain ⟨b0, o0, x, rfl, hc, hx, _, _⟩ := i0.get hlt
      have c0_lt : b0 < w.heap.size := cell_lt hc
      have c0 : wr.cell? ⟨b0, o0 + j, none⟩ = some (.int .i64 x) := (hb2.cell (p := ⟨b0, o0 + j, none⟩) c0_lt).trans hc
      have HA := Lib.hid (hE.out.trans (by rw [cols_at (by omega) hx.out]))
      clear hE HV hl
      by_cases hb : betw x 0 3 = true
      case neg =>
        replace hb : betw x 0 3 = false := by simpa using hb
        have HE := Lib.hid (show validAn (vs, rows) = false by rw [HA.out]; simp [hb])
        have hcall := fun q => l1In_any x 0 3 (wr.drewN q)
        rw [hb] at hcall
        have HC := Lib.hid hcall
        clear i0 t1 hl1 hb hcall
        go_wp2_with fail
        go_quiet ((go_at_call 71; exact quiet_same (HC.out _)))
        go_wp2_with fail
        go_ret
        exact ⟨ret_bool HE.out.symm, onD hb2 ⟨_, rfl⟩⟩
      have hx0 := betw_pos hb
      have hcall := fun q => l1In_any x 0 3 (wr.drewN q)
      rw [hb] at hcall
      have HC := Lib.hid hcall
      have H0 := Lib.hid hb
      clear hcall hb
      by_cases hj0 : j = 0
      · subst hj0
        have HE := Lib.hid (show validAn (vs, rows) = (colsFrom 4 (prevOf vs (0 + 1)) (vs.drop (0 + 1)) && (rowsB un0 rows && ascB rows)) by
          rw [HA.out, show prevOf vs (0 + 1) = x from hx.out, show betw x 0 (4 - 1) = true from H0.out, show decide (prevOf vs 0 < x) = true from decide_eq_true (show (-1 : Int) < x by omega)]; simp)
        have c0' : wr.cell? ⟨b0, o0, none⟩ = some (.int .i64 x) := c0
        clear i0 t1 hl1 hx HA
        go_wp2_with fail
        go_quiet ((go_at_call 71; exact quiet_same (HC.out _)))
        go_wp2_with fail
        go_roundw
        case rel => exact ⟨1, by omega, rfl, HE.out, hlc.step _⟩
        case measure => simp [intOf]; omega
      obtain ⟨i, rfl⟩ : ∃ i, j = i + 1 := ⟨j - 1, by omega⟩
      obtain ⟨b9, o9, y, hb9, hcy, hy, _, _⟩ := i0.get (show i < un0 by omega)
      simp at hb9
      obtain ⟨rfl, rfl⟩ := hb9
      have cy_lt : b0 < w.heap.size := cell_lt hcy
      have cy : wr.cell? ⟨b0, o0 + i, none⟩ = some (.int .i64 y) := (hb2.cell (p := ⟨b0, o0 + i, none⟩) cy_lt).trans hcy
      have hp : prevOf vs (i + 1) = y := hy.out
      rw [hp] at HA
      have hi63 : IntKind.i64.wrap (i : Int) = (i : Int) := IntWalk.i64_in _ (by omega)
      by_cases hxy : y < x
      · have HE := Lib.hid (show validAn (vs, rows) = (colsFrom 4 (prevOf vs (i + 1 + 1)) (vs.drop (i + 1 + 1)) && (rowsB un0 rows && ascB rows)) by
          rw [HA.out, show prevOf vs (i + 1 + 1) = x from hx.out, show betw x 0 (4 - 1) = true from H0.out, decide_eq_true hxy]; simp)
        clear i0 t1 hl1 hx HA hp hj0 hc hcy
        go_wp2_with fail
        go_quiet ((go_at_call 71; exact quiet_same (HC.out _)))
        clear hi63
        go_wp2_with fail
        go_roundw
        case rel => exact ⟨i + 1 + 1, by omega, by go_num, HE.out, hlc.step _⟩
        case measure => simp [intOf]; omega
      · have HE := Lib.hid (show validAn (vs, rows) = false by rw [HA.out]; simp [hxy])
        clear i0 t1 hl1 hx HA hp hj0 hc hcy
        go_wp2_with fail
        go_quiet ((go_at_call 71; exact quiet_same (HC.out _)))
        clear hi63
        go_wp2_with fail
        go_ret
        exact ⟨ret_bool HE.out.symm, onD hb2 ⟨_, rfl⟩⟩
    · have HW : Hid (validAn (vs, rows) = (rowsB un0 (rows.drop 0) && ascB (rows.drop (0 - 1)))) := Lib.hid (by rw [hE.out, cols_end (by omega)]; rfl)
      clear hE HV i0 hl
      obtain ⟨wo, rfl⟩ : ∃ W, W = wr := ⟨_, rfl⟩
      go_wp2_with fail
      go_loopw [4] (fun k wr => ∃ j : Nat, j ≤ un1 ∧ k = .int .i64 j ∧ Hid (validAn (vs, rows) = (rowsB un0 (rows.drop j) && ascB (rows.drop (j - 1)))) ∧ Drew wo wr) (fun k _ => un1 - (intOf k).toNat)
      case atStart => exact ⟨0, Nat.zero_le _, rfl, HW.out, Drew.refl _⟩
      case round =>
        obtain ⟨j, hj, rfl, hE, hdr⟩ := hrel
        have hlc := hdr
        replace hdr : Below wo.heap.size wo wr := hdr.below _
        have s3 := hdr.size
        have hb3 := on hb2 hdr
        replace b_0 := (hdr.cell (p := ⟨w.heap.size, 0, none⟩) (by simp only []; omega)).trans b_0
        replace b_1 := (hdr.cell (p := ⟨w.heap.size, 1, none⟩) (by simp only []; omega)).trans b_1
        by_cases hlt : j < un1
        · obtain ⟨b0, o0, r1, m1, q1, x, rfl, hc, hx, hi, _⟩ := t1.row hlt
          have hclt : b0 < w.heap.size := cell_lt hc
          have c0 : wr.cell? ⟨b0, o0 + j, none⟩ = some (.slice r1 m1 q1) := (hb3.cell (p := ⟨b0, o0 + j, none⟩) hclt).trans hc
          have hcall := fun q => l4Row_any r1 m1 q1 x un0 (wr.drewN q) ((hi.below hb3).drewN q)
          obtain ⟨t, ht⟩ : ∃ t, t = rowB x un0 := ⟨_, rfl⟩
          rw [← ht] at hcall
          have HC := Lib.hid hcall
          have HA := Lib.hid (hE.out.trans (by rw [rowsB_at hx.out, ← ht]))
          clear hcall ht hE HW
          cases t with
          | false =>
            have HE := Lib.hid (show validAn (vs, rows) = false by rw [HA.out]; simp)
            clear t1 hl1 hx hi hc
            go_wp2_with fail
            go_quiet ((go_at_call 78; exact quiet_same (HC.out _)))
            go_wp2_with fail
            go_ret
            exact ⟨ret_bool HE.out.symm, onD hb3 ⟨_, rfl⟩⟩
          | true =>
            by_cases hj0 : j = 0
            · subst hj0
              have HE := Lib.hid (show validAn (vs, rows) = (rowsB un0 (rows.drop (0 + 1)) && ascB (rows.drop (0 + 1 - 1))) by rw [HA.out]; simp)
              have c0' : wr.cell? ⟨b0, o0, none⟩ = some (.slice r1 m1 q1) := c0
              clear t1 hl1 hx hi hc
              go_wp2_with fail
              go_quiet ((go_at_call 78; exact quiet_same (HC.out _)))
              go_wp2_with fail
              go_roundw
              case rel => exact ⟨1, by omega, rfl, HE.out, hlc.step _⟩
              case measure => simp [intOf]; omega
            obtain ⟨i, rfl⟩ : ∃ i, j = i + 1 := ⟨j - 1, by omega⟩
            obtain ⟨b9, o9, r2, m2, q2, y, hb9, hcy, hy, hi', _⟩ := t1.row (show i < un1 by omega)
            simp at hb9
            obtain ⟨rfl, rfl⟩ := hb9
            have cy : wr.cell? ⟨b0, o0 + i, none⟩ = some (.slice r2 m2 q2) := (hb3.cell (p := ⟨b0, o0 + i, none⟩) hclt).trans hcy
            have hi63 : IntKind.i64.wrap (i : Int) = (i : Int) := IntWalk.i64_in _ (by omega)
            have hcall := fun q => cmp_spec r2 r1 m2 m1 q2 q1 y x (wr.drewN q) ((hi'.below hb3).drewN q) ((hi.below hb3).drewN q)
            obtain ⟨c, hcc⟩ : ∃ c, c = cmpRows y x := ⟨_, rfl⟩
            rw [← hcc] at hcall
            have HA2 : Hid (validAn (vs, rows) = (rowsB un0 (rows.drop (i + 1 + 1)) && (decide (c < 0) && ascB (rows.drop (i + 1))))) := Lib.hid (by
              rw [HA.out, show i + 1 - 1 = i by omega, ascB_at hy.out hx.out, hcc]; rfl)
            have HD := Lib.hid hcall
            clear t1 hl1 hx hy hi hi' hc hcy hcall hcc HA hj0
            by_cases h0 : c < 0
            · have HE := Lib.hid (show validAn (vs, rows) = (rowsB un0 (rows.drop (i + 1 + 1)) && ascB (rows.drop (i + 1 + 1 - 1))) by rw [HA2.out, decide_eq_true h0]; simp)
              go_wp2_with fail
              go_quiet ((first | (go_at_call 78; exact quiet_same (HC.out _)) | (go_at_call 61; exact quiet_drew (HD.out _))))
              clear hi63
              go_wp2_with fail
              go_roundw
              case rel => exact ⟨i + 1 + 1, by omega, by go_num, HE.out, hlc.step _⟩
              case measure => simp [intOf]; omega
            · have HE := Lib.hid (show validAn (vs, rows) = false by rw [HA2.out]; simp [h0])
              go_wp2_with fail
              go_quiet ((first | (go_at_call 78; exact quiet_same (HC.out _)) | (go_at_call 61; exact quiet_drew (HD.out _))))
              clear hi63
              go_wp2_with fail
              go_ret
              exact ⟨ret_bool HE.out.symm, onD hb3 ⟨_, rfl⟩⟩
        · have HE : Hid (validAn (vs, rows) = true) := Lib.hid (by
            rw [hE.out, rowsB_end (by omega), ascB_end (by omega)]; rfl)
          clear hE HW hl1 t1
          go_wp2_with fail
          go_ret
          exact ⟨ret_bool HE.out.symm, hb3⟩

end Go.Proofs.Ytogblmfmmlbahaa
