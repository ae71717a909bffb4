/- Contracts: whether a table is valid. -/
import Derived.Test.YthhbmbkecaffeaaKT
import Derived.Test.YthhbmbkecaffeaaRowB
import Derived.Test.YthhbmbkecaffeaaName
namespace Go.Proofs.Ythhbmbkecaffeaa
open Go.RowKit
set_option linter.unusedVariables false
set_option linter.unusedSimpArgs false
set_option synthInstance.maxSize 2000
set_option synthInstance.maxHeartbeats 400000

/-- Whether a table is valid. -/
def validT (t : DT) : Bool := nameB t.1 && (betw t.2.1 1 3 && (decide (t.2.2.length ≤ 8) && (rowsB t.2.1 t.2.2 && ascB t.2.2)))
theorem validT_rows {t : DT} (h : rowsB t.2.1 t.2.2 = false) : validT t = false := by simp [validT, h]
theorem validT_rest {t : DT} (h : rowsB t.2.1 t.2.2 = true) : validT t = (nameB t.1 && (betw t.2.1 1 3 && (decide (t.2.2.length ≤ 8) && ascB t.2.2))) := by simp [validT, h]

set_option maxHeartbeats 2000000 in
theorem validT_impl (cs : List Value) (x : DT) (w : World) (h : rT.rep w cs x) :
    Calls Try.prog 128 #[.agg cs.toArray] w fun e w' => e = .returned (.bool (validT x)) ∧ Below w.heap.size w w' := by
  obtain ⟨ub, un, uc, rfl, hs, hi, g1⟩ := rT_open h
  clear h
  obtain ⟨s, i, rows⟩ := x
  simp only at hs hi g1
  have t1 := rS_sl g1
  have hl1 := t1.len
  have hn1 := t1.small
  have HV := Lib.hid (show rowsB i rows = rowsB i (rows.drop 0) by simp)
  have hb0 : Below w.heap.size w w := Below.refl _ _
  go_enter Try.func128, Try.ntmps128
  obtain ⟨w1, hw1⟩ : ∃ W, W = w.alloc (.cells #[.string s, .int .i64 i, .slice ub un uc] 91) := ⟨_, rfl⟩
  have z1 : Below w.heap.size w w1 := by rw [hw1]; exact (Below.refl _ _).alloc (Nat.le_refl _) _
  have s1 : w1.heap.size = w.heap.size + 1 := by rw [hw1]; simp
  have hb1 := on hb0 z1
  have b_0 : w1.cell? ⟨w.heap.size, 0, none⟩ = some (.string s) := by rw [hw1]; exact box_cell (Below.refl _ _) rfl
  have b_1 : w1.cell? ⟨w.heap.size, 1, none⟩ = some (.int .i64 i) := by rw [hw1]; exact box_cell (Below.refl _ _) rfl
  have b_2 : w1.cell? ⟨w.heap.size, 2, none⟩ = some (.slice ub un uc) := by rw [hw1]; exact box_cell (Below.refl _ _) rfl
  have raw1_b_0 := b_0
  have raw1_b_1 := b_1
  have raw1_b_2 := b_2
  rw [hw1] at raw1_b_0 raw1_b_1 raw1_b_2
  go_wp2_with fail
  rw [← hw1]
  clear hw1
  clear raw1_b_0 raw1_b_1 raw1_b_2
  go_loopw [8] (fun k wr => ∃ j : Nat, j ≤ un ∧ k = .int .i64 j ∧ Hid (rowsB i rows = rowsB i (rows.drop j)) ∧ w1 = wr) (fun k _ => un - (intOf k).toNat)
  case atStart => exact ⟨0, Nat.zero_le _, rfl, HV.out, rfl⟩
  case round =>
    obtain ⟨j, hj, rfl, hE, rfl⟩ := hrel
    by_cases hlt : j < un
    · obtain ⟨b0, o0, r1, m1, q1, y, rfl, hc, hx, hi9, _⟩ := t1.row hlt
      have hclt : b0 < w.heap.size := cell_lt hc
      have c0 : w1.cell? ⟨b0, o0 + j, none⟩ = some (.slice r1 m1 q1) := (hb1.cell (p := ⟨b0, o0 + j, none⟩) hclt).trans hc
      have hcall := rowOk_any r1 m1 q1 y i _ (hi9.below hb1)
      obtain ⟨t, ht⟩ : ∃ t, t = rowB y i := ⟨_, rfl⟩
      rw [← ht] at hcall
      have HC := Lib.hid hcall
      have HA := Lib.hid (hE.out.trans (by rw [rowsB_at hx.out, ← ht]))
      clear t1 hl1 hx hcall ht hE HV hi9 hc
      go_wp2_with fail
      refine (HC.out).mono ?_
      rintro e w' ⟨rfl, rfl⟩
      cases t with
      | true =>
        have HE := Lib.hid (show rowsB i rows = rowsB i (rows.drop (j + 1)) by rw [HA.out]; simp)
        go_wp2_with fail
        go_roundw
        case rel => exact ⟨j + 1, by omega, by go_num, HE.out, trivial⟩
        case measure => simp [intOf]; omega
      | false =>
        have HE := Lib.hid (show validT (s, i, rows) = false from validT_rows (by rw [HA.out]; simp))
        go_wp2_with fail
        go_ret
        exact ⟨ret_bool HE.out.symm, hb1⟩
    · have HE : Hid (validT (s, i, rows) = (nameB s && (betw i 1 3 && (decide ((un : Int) ≤ 8) && ascB rows)))) := Lib.hid (by
        rw [validT_rest (show rowsB i rows = true by rw [hE.out, rowsB_end (by omega)])]
        simp only [hl1]
        congr 3
        rw [Bool.eq_iff_iff]; simp only [decide_eq_true_eq]; omega)
      have t2 := t1.below hb1
      clear hE HV hl1 t1
      go_wp2_with fail
      refine (nameOk_any _ _ hs).mono ?_
      rintro e w' ⟨rfl, rfl⟩
      obtain ⟨c1, hc1⟩ : ∃ c, c = nameB s := ⟨_, rfl⟩
      rw [← hc1] at HE ⊢
      clear hc1
      cases c1 with
      | false =>
        clear t2
        go_wp2_with fail
        go_ret
        exact ⟨ret_bool (by rw [HE.out]; rfl), hb1⟩
      | true =>
        go_wp2_with fail
        refine (within_any _ _ _ _).mono ?_
        rintro e w' ⟨rfl, rfl⟩
        obtain ⟨c2, hc2⟩ : ∃ c, c = betw i 1 3 := ⟨_, rfl⟩
        rw [← hc2] at HE ⊢
        clear hc2
        cases c2 with
        | false =>
          clear t2
          go_wp2_with fail
          go_ret
          exact ⟨ret_bool (by rw [HE.out]; rfl), hb1⟩
        | true =>
          by_cases h8 : (un : Int) ≤ 8
          · have HE2 := Lib.hid (show validT (s, i, rows) = ascB rows by rw [HE.out, decide_eq_true h8]; rfl)
            go_wp2_with fail
            refine (ascending_any _ _ _ _ _ t2).mono ?_
            rintro e w9 ⟨rfl, z9⟩
            replace z9 : Below w1.heap.size w1 w9 := z9.below _
            have s2 := z9.size
            have hb2 := on hb1 z9
            replace b_0 := (z9.cell (p := ⟨w.heap.size, 0, none⟩) (by simp only []; omega)).trans b_0
            replace b_1 := (z9.cell (p := ⟨w.heap.size, 1, none⟩) (by simp only []; omega)).trans b_1
            replace b_2 := (z9.cell (p := ⟨w.heap.size, 2, none⟩) (by simp only []; omega)).trans b_2
            clear t2
            go_wp2_with fail
            go_ret
            exact ⟨ret_bool HE2.out.symm, hb2⟩
          · have HE2 := Lib.hid (show validT (s, i, rows) = false by rw [HE.out, decide_eq_false h8]; rfl)
            clear t2
            go_wp2_with fail
            go_ret
            exact ⟨ret_bool HE2.out.symm, hb1⟩

set_option maxHeartbeats 2000000 in
theorem validT_spec (cs : List Value) (x : DT) (w : World) (h : rT.rep w cs x) :
    Calls Try.prog 119 #[.agg cs.toArray] w fun e w' => e = .returned (.bool (validT x)) ∧ Below w.heap.size w w' := by
  obtain ⟨ub, un, uc, rfl, hs, hi, g1⟩ := rT_open h
  clear h
  obtain ⟨s, i, rows⟩ := x
  simp only at hs hi g1
  have t1 := rS_sl g1
  have hl1 := t1.len
  have hn1 := t1.small
  have HV : Hid (validT (s, i, rows) = (nameB s && (betw i 1 3 && (decide ((un : Int) ≤ 8) && (rowsB i rows && ascB rows))))) := Lib.hid (by
    simp only [validT, hl1]
    congr 3
    rw [Bool.eq_iff_iff]; simp only [decide_eq_true_eq]; omega)
  have hb0 : Below w.heap.size w w := Below.refl _ _
  go_enter Try.func119, Try.ntmps119
  obtain ⟨w1, hw1⟩ : ∃ W, W = w.alloc (.cells #[.string s, .int .i64 i, .slice ub un uc] 91) := ⟨_, rfl⟩
  have z1 : Below w.heap.size w w1 := by rw [hw1]; exact (Below.refl _ _).alloc (Nat.le_refl _) _
  have s1 : w1.heap.size = w.heap.size + 1 := by rw [hw1]; simp
  have hb1 := on hb0 z1
  have b_0 : w1.cell? ⟨w.heap.size, 0, none⟩ = some (.string s) := by rw [hw1]; exact box_cell (Below.refl _ _) rfl
  have b_1 : w1.cell? ⟨w.heap.size, 1, none⟩ = some (.int .i64 i) := by rw [hw1]; exact box_cell (Below.refl _ _) rfl
  have b_2 : w1.cell? ⟨w.heap.size, 2, none⟩ = some (.slice ub un uc) := by rw [hw1]; exact box_cell (Below.refl _ _) rfl
  have raw1_b_0 := b_0
  have raw1_b_1 := b_1
  have raw1_b_2 := b_2
  rw [hw1] at raw1_b_0 raw1_b_1 raw1_b_2
  go_wp2_with fail
  rw [← hw1]
  clear hw1
  clear raw1_b_0 raw1_b_1 raw1_b_2
  refine (l4Name_any _ _ hs).mono ?_
  rintro e w' ⟨rfl, rfl⟩
  obtain ⟨c1, hc1⟩ : ∃ c, c = nameB s := ⟨_, rfl⟩
  rw [← hc1] at HV ⊢
  clear hc1
  cases c1 with
  | false =>
    clear t1 hl1
    go_wp2_with fail
    go_ret
    exact ⟨ret_bool (by rw [HV.out]; rfl), hb1⟩
  | true =>
    go_wp2_with fail
    refine (l1In_any _ _ _ _).mono ?_
    rintro e w' ⟨rfl, rfl⟩
    obtain ⟨c2, hc2⟩ : ∃ c, c = betw i 1 3 := ⟨_, rfl⟩
    rw [← hc2] at HV ⊢
    clear hc2
    cases c2 with
    | false =>
      clear t1 hl1
      go_wp2_with fail
      go_ret
      exact ⟨ret_bool (by rw [HV.out]; rfl), hb1⟩
    | true =>
      by_cases h8 : (un : Int) ≤ 8
      case neg =>
        have HE2 := Lib.hid (show validT (s, i, rows) = false by rw [HV.out, decide_eq_false h8]; rfl)
        have h8' : 8 < (un : Int) := by omega
        clear t1 hl1
        go_wp2_with fail
        go_ret
        exact ⟨ret_bool HE2.out.symm, hb1⟩
      have HW : Hid (validT (s, i, rows) = (rowsB i (rows.drop 0) && ascB (rows.drop (0 - 1)))) := Lib.hid (by rw [HV.out, decide_eq_true h8]; rfl)
      have h8' : ¬ 8 < (un : Int) := by omega
      go_wp2_with fail
      go_loopw [3] (fun k wr => ∃ j : Nat, j ≤ un ∧ k = .int .i64 j ∧ Hid (validT (s, i, rows) = (rowsB i (rows.drop j) && ascB (rows.drop (j - 1)))) ∧ Drew w1 wr) (fun k _ => un - (intOf k).toNat)
      case atStart => exact ⟨0, Nat.zero_le _, rfl, HW.out, Drew.refl _⟩
      case round =>
        obtain ⟨j, hj, rfl, hE, hdr⟩ := hrel
        have hlc := hdr
        replace hdr : Below w1.heap.size w1 wr := hdr.below _
        have s2 := hdr.size
        have hb2 := on hb1 hdr
        replace b_0 := (hdr.cell (p := ⟨w.heap.size, 0, none⟩) (by simp only []; omega)).trans b_0
        replace b_1 := (hdr.cell (p := ⟨w.heap.size, 1, none⟩) (by simp only []; omega)).trans b_1
        replace b_2 := (hdr.cell (p := ⟨w.heap.size, 2, none⟩) (by simp only []; omega)).trans b_2
        by_cases hlt : j < un
        · obtain ⟨b0, o0, r1, m1, q1, y, rfl, hc, hx, hi9, _⟩ := t1.row hlt
          have hclt : b0 < w.heap.size := cell_lt hc
          have c0 : wr.cell? ⟨b0, o0 + j, none⟩ = some (.slice r1 m1 q1) := (hb2.cell (p := ⟨b0, o0 + j, none⟩) hclt).trans hc
          have hcall := fun q => l4Row_any r1 m1 q1 y i (wr.drewN q) ((hi9.below hb2).drewN q)
          obtain ⟨t, ht⟩ : ∃ t, t = rowB y i := ⟨_, rfl⟩
          rw [← ht] at hcall
          have HC := Lib.hid hcall
          have HA := Lib.hid (hE.out.trans (by rw [rowsB_at hx.out, ← ht]))
          clear hcall ht hE HW HV
          cases t with
          | false =>
            have HE := Lib.hid (show validT (s, i, rows) = false by rw [HA.out]; simp)
            clear t1 hl1 hx hi9 hc
            go_wp2_with fail
            go_quiet ((go_at_call 114; exact quiet_same (HC.out _)))
            go_wp2_with fail
            go_ret
            exact ⟨ret_bool HE.out.symm, onD hb2 ⟨_, rfl⟩⟩
          | true =>
            by_cases hj0 : j = 0
            · subst hj0
              have HE := Lib.hid (show validT (s, i, rows) = (rowsB i (rows.drop (0 + 1)) && ascB (rows.drop (0 + 1 - 1))) by rw [HA.out]; simp)
              have c0' : wr.cell? ⟨b0, o0, none⟩ = some (.slice r1 m1 q1) := c0
              clear t1 hl1 hx hi9 hc
              go_wp2_with fail
              go_quiet ((go_at_call 114; exact quiet_same (HC.out _)))
              go_wp2_with fail
              go_roundw
              case rel => exact ⟨1, by omega, rfl, HE.out, hlc.step _⟩
              case measure => simp [intOf]; omega
            obtain ⟨i', rfl⟩ : ∃ i, j = i + 1 := ⟨j - 1, by omega⟩
            obtain ⟨b9, o9, r2, m2, q2, z, hb9, hcy, hy, hi', _⟩ := t1.row (show i' < un by omega)
            simp at hb9
            obtain ⟨rfl, rfl⟩ := hb9
            have cy : wr.cell? ⟨b0, o0 + i', none⟩ = some (.slice r2 m2 q2) := (hb2.cell (p := ⟨b0, o0 + i', none⟩) hclt).trans hcy
            have hi63 : IntKind.i64.wrap (i' : Int) = (i' : Int) := IntWalk.i64_in _ (by omega)
            have hcall := fun q => cmp_spec r2 r1 m2 m1 q2 q1 z y (wr.drewN q) ((hi'.below hb2).drewN q) ((hi9.below hb2).drewN q)
            obtain ⟨c, hcc⟩ : ∃ c, c = cmpRows z y := ⟨_, rfl⟩
            rw [← hcc] at hcall
            have HA2 : Hid (validT (s, i, rows) = (rowsB i (rows.drop (i' + 1 + 1)) && (decide (c < 0) && ascB (rows.drop (i' + 1))))) := Lib.hid (by
              rw [HA.out, show i' + 1 - 1 = i' by omega, ascB_at hy.out hx.out, hcc]; rfl)
            have HD := Lib.hid hcall
            clear t1 hl1 hx hy hi9 hi' hc hcy hcall hcc HA hj0
            by_cases h0 : c < 0
            · have HE := Lib.hid (show validT (s, i, rows) = (rowsB i (rows.drop (i' + 1 + 1)) && ascB (rows.drop (i' + 1 + 1 - 1))) by rw [HA2.out, decide_eq_true h0]; simp)
              go_wp2_with fail
              go_quiet ((first | (go_at_call 114; exact quiet_same (HC.out _)) | (go_at_call 85; exact quiet_drew (HD.out _))))
              clear hi63
              go_wp2_with fail
              go_roundw
              case rel => exact ⟨i' + 1 + 1, by omega, by go_num, HE.out, hlc.step _⟩
              case measure => simp [intOf]; omega
            · have HE := Lib.hid (show validT (s, i, rows) = false by rw [HA2.out]; simp [h0])
              go_wp2_with fail
              go_quiet ((first | (go_at_call 114; exact quiet_same (HC.out _)) | (go_at_call 85; exact quiet_drew (HD.out _))))
              clear hi63
              go_wp2_with fail
              go_ret
              exact ⟨ret_bool HE.out.symm, onD hb2 ⟨_, rfl⟩⟩
        · have HE : Hid (validT (s, i, rows) = true) := Lib.hid (by
            rw [hE.out, rowsB_end (by omega), ascB_end (by omega)]; rfl)
          clear hE HW hl1 t1
          go_wp2_with fail
          go_ret
          exact ⟨ret_bool HE.out.symm, hb2⟩

end Go.Proofs.Ythhbmbkecaffeaa
