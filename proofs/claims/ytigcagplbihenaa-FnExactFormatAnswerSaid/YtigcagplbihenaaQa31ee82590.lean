/- Texts joined for one claim: ValidQI, ValidQS, Text, Fmt. -/
import Derived.Test.YtigcagplbihenaaQ845aa55fd9
import Derived.Laws.IdiomStrings
import Derived.Deep.RegionHeld3

/- Contracts: whether a query is valid: the program's. -/
namespace Go.Proofs.Ytigcagplbihenaa
open Go.RowKit
set_option linter.unusedVariables false
set_option linter.unusedSimpArgs false
set_option synthInstance.maxSize 2000
set_option synthInstance.maxHeartbeats 400000

theorem infoBool : (Try.prog.info? 4).map (fun i => (i.zero, i.size, i.bytes)) = some (some (.bool false), 1, 1) := by kernel_rfl

set_option maxHeartbeats 2000000 in
theorem validQ_impl (cs : List Value) (x : DQ) (w : World) (h : rQ.rep w cs x) :
    Calls Try.prog 19 #[.agg cs.toArray] w fun e w' => e = .returned (.bool (validQ x)) ∧ Below w.heap.size w w' := by
  obtain ⟨ub, un, uc, rfl, hi, g1⟩ := rQ_open h
  clear h
  obtain ⟨i, xs⟩ := x
  simp only at hi g1
  obtain ⟨hi1, hi2⟩ := hi
  have t0 := rS_sl g1
  have hl := t0.len
  have hn := t0.small
  clear t0
  have hb0 : Below w.heap.size w w := Below.refl _ _
  by_cases h1 : betw i 1 4 = true
  case neg =>
    replace h1 : betw i 1 4 = false := by simpa using h1
    have HE := Lib.hid (validQ_no1 (q := (i, xs)) h1)
    go_enter Try.func19, Try.ntmps19
    obtain ⟨w1, hw1⟩ : ∃ W, W = w.alloc (.cells #[.int .i64 i, .slice ub un uc] 29) := ⟨_, rfl⟩
    have z1 : Below w.heap.size w w1 := by rw [hw1]; exact (Below.refl _ _).alloc (Nat.le_refl _) _
    have s1 : w1.heap.size = w.heap.size + 1 := by rw [hw1]; simp
    have hb1 := on hb0 z1
    have b_0 : w1.cell? ⟨w.heap.size, 0, none⟩ = some (.int .i64 i) := by rw [hw1]; exact box_cell (Below.refl _ _) rfl
    have b_1 : w1.cell? ⟨w.heap.size, 1, none⟩ = some (.slice ub un uc) := by rw [hw1]; exact box_cell (Below.refl _ _) rfl
    have raw1_b_0 := b_0
    have raw1_b_1 := b_1
    rw [hw1] at raw1_b_0 raw1_b_1
    go_wp2_with fail
    rw [← hw1]
    clear hw1
    clear raw1_b_0 raw1_b_1
    refine (within_any _ _ _ _).mono ?_
    rintro e w' ⟨rfl, rfl⟩
    clear hl
    go_wp2_with fail
    go_ret
    exact ⟨ret_bool HE.out.symm, hb1⟩
  by_cases h2 : betw un 1 4 = true
  case neg =>
    replace h2 : betw un 1 4 = false := by simpa using h2
    have HE := Lib.hid (validQ_no2 (q := (i, xs)) (by simp only []; rw [hl]; exact h2))
    go_enter Try.func19, Try.ntmps19
    obtain ⟨w2, hw2⟩ : ∃ W, W = w.alloc (.cells #[.int .i64 i, .slice ub un uc] 29) := ⟨_, rfl⟩
    have z2 : Below w.heap.size w w2 := by rw [hw2]; exact (Below.refl _ _).alloc (Nat.le_refl _) _
    have s2 : w2.heap.size = w.heap.size + 1 := by rw [hw2]; simp
    have hb2 := on hb0 z2
    have b_0 : w2.cell? ⟨w.heap.size, 0, none⟩ = some (.int .i64 i) := by rw [hw2]; exact box_cell (Below.refl _ _) rfl
    have b_1 : w2.cell? ⟨w.heap.size, 1, none⟩ = some (.slice ub un uc) := by rw [hw2]; exact box_cell (Below.refl _ _) rfl
    have raw2_b_0 := b_0
    have raw2_b_1 := b_1
    rw [hw2] at raw2_b_0 raw2_b_1
    go_wp2_with fail
    rw [← hw2]
    clear hw2
    clear raw2_b_0 raw2_b_1
    refine (within_any _ _ _ _).mono ?_
    rintro e w' ⟨rfl, rfl⟩
    go_wp2_with fail
    refine (within_any _ _ _ _).mono ?_
    rintro e w' ⟨rfl, rfl⟩
    clear hl
    go_wp2_with fail
    go_ret
    exact ⟨ret_bool HE.out.symm, hb2⟩
  have h3 := h1
  simp only [betw, Bool.and_eq_true, decide_eq_true_eq] at h3
  obtain ⟨n, rfl⟩ := Int.eq_ofNat_of_zero_le (show 0 ≤ i by omega)
  have hn1 : 1 ≤ n ∧ n ≤ 4 := by omega
  obtain ⟨hn1, hn4⟩ := hn1
  clear h3 hi1 hi2
  have HV := Lib.hid (validQ_go (xs := xs) h1 (by rw [hl]; exact h2))
  have H2 := Lib.hid h2
  go_enter Try.func19, Try.ntmps19
  obtain ⟨w3, hw3⟩ : ∃ W, W = w.alloc (.cells #[.int .i64 n, .slice ub un uc] 29) := ⟨_, rfl⟩
  have z3 : Below w.heap.size w w3 := by rw [hw3]; exact (Below.refl _ _).alloc (Nat.le_refl _) _
  have s3 : w3.heap.size = w.heap.size + 1 := by rw [hw3]; simp
  have hb3 := on hb0 z3
  have b_0 : w3.cell? ⟨w.heap.size, 0, none⟩ = some (.int .i64 n) := by rw [hw3]; exact box_cell (Below.refl _ _) rfl
  have b_1 : w3.cell? ⟨w.heap.size, 1, none⟩ = some (.slice ub un uc) := by rw [hw3]; exact box_cell (Below.refl _ _) rfl
  have raw3_b_0 := b_0
  have raw3_b_1 := b_1
  rw [hw3] at raw3_b_0 raw3_b_1
  go_wp2_with fail
  rw [← hw3]
  clear hw3
  clear raw3_b_0 raw3_b_1
  refine (within_any _ _ _ _).mono ?_
  rintro e w' ⟨rfl, rfl⟩
  go_wp2_with fail
  refine (within_any _ _ _ _).mono ?_
  rintro e w' ⟨rfl, rfl⟩
  go_wp2_with (at_make; refine wpList_mkS Try.underlying67 infoBool rfl (by decide) (by decide) O.bool ([] : List Bool) _ _ n (by omega) rfl rfl rfl rfl ?_; intro w2 hp hz hz2; have s4 := hz.size; have hb4 := on hb3 hz; replace b_0 := (hz.cell (p := ⟨w.heap.size, 0, none⟩) (by simp only []; omega)).trans b_0; replace b_1 := (hz.cell (p := ⟨w.heap.size, 1, none⟩) (by simp only []; omega)).trans b_1)
  have B0 : Bools w2 (w.heap.size + 1) n 0 := by have h9 := Bools.of_part hp; rwa [show w3.heap.size = (w.heap.size + 1) by omega] at h9
  clear hp h1 h2
  go_loopw [25] (fun k wr => ∃ j m : Nat, j ≤ un ∧ m < 2 ^ n ∧ k = .int .i64 j ∧ Hid (validQ ((n : Int), xs) = validFrom n m (xs.drop j)) ∧ Bools wr (w.heap.size + 1) n m ∧ Turn (w.heap.size + 1) (w.heap.size + 2) w2 wr) (fun k _ => un - (intOf k).toNat)
  case atStart => exact ⟨0, 0, Nat.zero_le _, Nat.two_pow_pos _, rfl, HV.out, B0, turn_refl _ _ _⟩
  case round =>
    obtain ⟨j, m, hj, hm, rfl, hE, hB, hdr⟩ := hrel
    obtain ⟨wo, rfl⟩ : ∃ W, W = wr := ⟨_, rfl⟩
    have hlc := hdr
    clear B0
    have s5 := hdr.size
    have hb5 := hb4.trans ((hdr.below (by omega)).mono (by omega))
    replace b_0 := (hdr.cell (p := ⟨w.heap.size, 0, none⟩) (by simp only []; omega) (by simp only []; omega)).trans b_0
    replace b_1 := (hdr.cell (p := ⟨w.heap.size, 1, none⟩) (by simp only []; omega) (by simp only []; omega)).trans b_1
    have t0 := rS_sl g1
    have hm16 := pow_le16 hn4
    by_cases hlt : j < un
    · obtain ⟨b1, o1, cs, x, rfl, hx, hr, hc⟩ := t0.at hlt
      obtain ⟨s, vs⟩ := x
      obtain ⟨vb, vn, vc, rfl, hs, g2⟩ := rA_open hr
      simp only at hs g2
      have i0 := rI_ints g2
      have hvl := i0.len
      have hvs := i0.small
      obtain ⟨hvc, hvc2⟩ := rS_cap g2
      have e_lt : b1 < w.heap.size := cell_lt (hc 0 _ rfl)
      have e_0 : wo.cell? ⟨b1, o1 + j * 2, none⟩ = some (.string s) := (hb5.cell (p := ⟨b1, o1 + j * 2, none⟩) e_lt).trans (by have h9 := hc 0 _ rfl; rw [← Nat.add_assoc] at h9; exact h9)
      have e_1 : wo.cell? ⟨b1, o1 + j * 2 + 1, none⟩ = some (.slice vb vn vc) := (hb5.cell (p := ⟨b1, o1 + j * 2 + 1, none⟩) e_lt).trans (by have h9 := hc 1 _ rfl; rw [← Nat.add_assoc] at h9; exact h9)
      have HA := Lib.hid (hE.out.trans (validFrom_at hx.out))
      clear hc t0 hr hl hx hE i0 HV
      have hg := hB.lt
      obtain ⟨w6, hw6⟩ : ∃ W, W = wo.alloc (.cells #[.string s, .slice vb vn vc] 46) := ⟨_, rfl⟩
      have z6 : Below wo.heap.size wo w6 := by rw [hw6]; exact (Below.refl _ _).alloc (Nat.le_refl _) _
      have s6 : w6.heap.size = wo.heap.size + 1 := by rw [hw6]; simp
      have hb6 := on hb5 z6
      have old6_b_0 := b_0
      have old6_b_1 := b_1
      have old6_e_0 := e_0
      have old6_e_1 := e_1
      replace b_0 := (z6.cell (p := ⟨w.heap.size, 0, none⟩) (by simp only []; omega)).trans b_0
      replace b_1 := (z6.cell (p := ⟨w.heap.size, 1, none⟩) (by simp only []; omega)).trans b_1
      replace hlc := hlc.trans (turn_below z6 (Nat.le_refl _))
      replace e_0 := (z6.cell (p := ⟨b1, o1 + j * 2, none⟩) (by simp only []; omega)).trans e_0
      replace e_1 := (z6.cell (p := ⟨b1, o1 + j * 2 + 1, none⟩) (by simp only []; omega)).trans e_1
      replace hB := hB.below z6 (by omega)
      have p_0 : w6.cell? ⟨wo.heap.size, 0, none⟩ = some (.string s) := by rw [hw6]; exact box_cell (Below.refl _ _) rfl
      have p_1 : w6.cell? ⟨wo.heap.size, 1, none⟩ = some (.slice vb vn vc) := by rw [hw6]; exact box_cell (Below.refl _ _) rfl
      have raw6_b_0 := b_0
      have raw6_b_1 := b_1
      have raw6_e_0 := e_0
      have raw6_e_1 := e_1
      have raw6_p_0 := p_0
      have raw6_p_1 := p_1
      rw [hw6] at raw6_b_0 raw6_b_1 raw6_e_0 raw6_e_1 raw6_p_0 raw6_p_1
      by_cases h1 : nameB s = true
      case neg =>
        replace h1 : nameB s = false := by simpa using h1
        have HE := Lib.hid (show validQ ((n : Int), xs) = false by rw [HA.out]; simp [h1])
        go_wp2_with fail
        rw [← hw6]
        clear hw6
        clear old6_b_0 old6_b_1 old6_e_0 old6_e_1 raw6_b_0 raw6_b_1 raw6_e_0 raw6_e_1 raw6_p_0 raw6_p_1
        refine (nameOk_any _ _ hs).mono ?_
        rintro e w' ⟨rfl, rfl⟩
        go_wp2_with fail
        go_ret
        exact ⟨ret_bool HE.out.symm, hb6⟩
      by_cases h2 : betw vn 1 3 = true
      case neg =>
        replace h2 : betw vn 1 3 = false := by simpa using h2
        have HE := Lib.hid (show validQ ((n : Int), xs) = false by rw [HA.out]; simp [hvl, h2])
        go_wp2_with fail
        rw [← hw6]
        clear hw6
        clear old6_b_0 old6_b_1 old6_e_0 old6_e_1 raw6_b_0 raw6_b_1 raw6_e_0 raw6_e_1 raw6_p_0 raw6_p_1
        refine (nameOk_any _ _ hs).mono ?_
        rintro e w' ⟨rfl, rfl⟩
        go_wp2_with fail
        refine (within_any _ _ _ _).mono ?_
        rintro e w' ⟨rfl, rfl⟩
        go_wp2_with fail
        go_ret
        exact ⟨ret_bool HE.out.symm, hb6⟩
      have HA2 := Lib.hid (show validQ ((n : Int), xs) = (varsFrom n (vs.take 0) (vs.drop 0) && validFrom n (vbits m (vs.drop 0)) (xs.drop (j + 1))) by rw [HA.out]; simp [h1, hvl, h2])
      clear HA
      go_wp2_with fail
      rw [← hw6]
      clear hw6
      clear old6_b_0 old6_b_1 old6_e_0 old6_e_1 raw6_b_0 raw6_b_1 raw6_e_0 raw6_e_1 raw6_p_0 raw6_p_1
      refine (nameOk_any _ _ hs).mono ?_
      rintro e w' ⟨rfl, rfl⟩
      go_wp2_with fail
      refine (within_any _ _ _ _).mono ?_
      rintro e w' ⟨rfl, rfl⟩
      have h3 := h2
      simp only [betw, Bool.and_eq_true, decide_eq_true_eq] at h3
      go_wp2_with fail
      clear h1 h2
      go_loopw [43] (fun k wr => ∃ i m : Nat, i ≤ vn ∧ m < 2 ^ n ∧ k = .int .i64 i ∧ Hid (validQ ((n : Int), xs) = (varsFrom n (vs.take i) (vs.drop i) && validFrom n (vbits m (vs.drop i)) (xs.drop (j + 1)))) ∧ Bools wr (w.heap.size + 1) n m ∧ Turn (w.heap.size + 1) (w.heap.size + 2) w6 wr) (fun k _ => vn - (intOf k).toNat)
      case atStart => exact ⟨0, m, Nat.zero_le _, hm, rfl, HA2.out, hB, turn_refl _ _ _⟩
      case round =>
        obtain ⟨i, m, hi, hm, rfl, hE, hB, hdr⟩ := hrel
        have hlo := hdr
        have s7 := hdr.size
        have hb7 := hb6.trans ((hdr.below (by omega)).mono (by omega))
        replace b_0 := (hdr.cell (p := ⟨w.heap.size, 0, none⟩) (by simp only []; omega) (by simp only []; omega)).trans b_0
        replace b_1 := (hdr.cell (p := ⟨w.heap.size, 1, none⟩) (by simp only []; omega) (by simp only []; omega)).trans b_1
        replace hlc := hlc.trans hdr
        replace e_0 := (hdr.cell (p := ⟨b1, o1 + j * 2, none⟩) (by simp only []; omega) (by simp only []; omega)).trans e_0
        replace e_1 := (hdr.cell (p := ⟨b1, o1 + j * 2 + 1, none⟩) (by simp only []; omega) (by simp only []; omega)).trans e_1
        replace p_0 := (hdr.cell (p := ⟨wo.heap.size, 0, none⟩) (by simp only []; omega) (by simp only []; omega)).trans p_0
        replace p_1 := (hdr.cell (p := ⟨wo.heap.size, 1, none⟩) (by simp only []; omega) (by simp only []; omega)).trans p_1
        have hm16 := pow_le16 hn4
        have i0 := rI_ints g2
        by_cases hlv : i < vn
        · obtain ⟨b2, o2, v, rfl, hc, hv, hv1, hv2⟩ := i0.get hlv
          have v0_lt : b2 < w.heap.size := cell_lt hc
          have v0 : wr.cell? ⟨b2, o2 + i, none⟩ = some (.int .i64 v) := (hb7.cell (p := ⟨b2, o2 + i, none⟩) v0_lt).trans hc
          clear hc
          by_cases h4 : betw v 0 ((n : Int) - 1) = true
          case neg =>
            replace h4 : betw v 0 ((n : Int) - 1) = false := by simpa using h4
            have HE := Lib.hid (show validQ ((n : Int), xs) = false by rw [hE.out, vars_no (by omega) hv.out (by simp [h4])]; rfl)
            clear i0 hvl hB
            go_wp2_with fail
            refine (within_any _ _ _ _).mono ?_
            rintro e w' ⟨rfl, rfl⟩
            go_wp2_with fail
            go_ret
            exact ⟨ret_bool HE.out.symm, hb7⟩
          have hcall := contains_any (some ⟨b2, o2, none⟩) i vc (vs.take i) v wr ((i0.takeTo (by omega)).below hb7)
          obtain ⟨t, ht⟩ : ∃ t, t = has (vs.take i) v := ⟨_, rfl⟩
          rw [← ht] at hcall
          have HC := Lib.hid hcall
          clear hcall
          have h5 := h4
          simp only [betw, Bool.and_eq_true, decide_eq_true_eq] at h5
          obtain ⟨v, rfl⟩ := Int.eq_ofNat_of_zero_le h5.1
          have hvn : v < n := by omega
          clear h5
          cases t with
          | true =>
            have HE := Lib.hid (show validQ ((n : Int), xs) = false by rw [hE.out, vars_no (by omega) hv.out (by rw [← ht]; simp)]; rfl)
            clear i0 hvl ht hB
            go_wp2_with fail
            refine (within_any _ _ _ _).mono ?_
            rintro e w' ⟨rfl, rfl⟩
            go_wp2_with fail
            refine (HC.out).mono ?_
            rintro e w' ⟨rfl, rfl⟩
            go_wp2_with fail
            go_ret
            exact ⟨ret_bool HE.out.symm, hb7⟩
          | false =>
            have HE := Lib.hid (hE.out.trans (show _ = (varsFrom n (vs.take (i + 1)) (vs.drop (i + 1)) && validFrom n (vbits (m ||| 2 ^ v) (vs.drop (i + 1))) (xs.drop (j + 1))) by rw [vars_yes (by omega) hv.out h4 ht.symm, vbits_at (by omega) hv.out]))
            have hB' := hB.set hvn
            have hk := hB.cell hvn
            have hf := hB.frozen v
            have hmo := or_lt hm hvn
            clear i0 hvl ht hB
            go_wp2_with fail
            refine (within_any _ _ _ _).mono ?_
            rintro e w' ⟨rfl, rfl⟩
            go_wp2_with fail
            refine (HC.out).mono ?_
            rintro e w' ⟨rfl, rfl⟩
            go_wp2_with fail
            go_roundw
            case rel => exact ⟨i + 1, m ||| 2 ^ v, by omega, hmo, by go_num, HE.out, hB', hlo.setCell (Nat.le_refl _) (by simp only []; omega) _⟩
            case measure => simp [intOf]; omega
        · have HE := Lib.hid (show validQ ((n : Int), xs) = validFrom n m (xs.drop (j + 1)) by rw [hE.out, vars_end (by omega), vbits_end (by omega)]; rfl)
          clear i0 hvl
          go_wp2_with fail
          go_roundw
          case rel => exact ⟨j + 1, m, by omega, hm, by go_num, HE.out, hB, hlc⟩
          case measure => simp [intOf]; omega
    · have HE := Lib.hid (hE.out.trans (validFrom_end (by omega)))
      clear t0 hl hE HV
      go_wp2_with fail
      refine (containsBools _ _ _ _ _ hB hn4 hm).mono ?_
      rintro e w' ⟨rfl, rfl⟩
      obtain ⟨t, ht⟩ : ∃ t, t = decide (m = 2 ^ n - 1) := ⟨_, rfl⟩
      rw [← ht] at HE ⊢
      clear ht
      go_wp2_with fail
      go_ret
      exact ⟨ret_bool (by rw [HE.out] <;> simp), hb5⟩

end Go.Proofs.Ytigcagplbihenaa

/- Contracts: whether a query is valid: the reference's. -/
namespace Go.Proofs.Ytigcagplbihenaa
open Go.RowKit
set_option linter.unusedVariables false
set_option linter.unusedSimpArgs false
set_option synthInstance.maxSize 2000
set_option synthInstance.maxHeartbeats 400000

set_option maxHeartbeats 2000000 in
theorem validQ_spec (cs : List Value) (x : DQ) (w : World) (h : rQ.rep w cs x) :
    Calls Try.prog 16 #[.agg cs.toArray] w fun e w' => e = .returned (.bool (validQ x)) ∧ Below w.heap.size w w' := by
  obtain ⟨ub, un, uc, rfl, hi, g1⟩ := rQ_open h
  clear h
  obtain ⟨i, xs⟩ := x
  simp only at hi g1
  obtain ⟨hi1, hi2⟩ := hi
  have t0 := rS_sl g1
  have hl := t0.len
  have hn := t0.small
  clear t0
  have hb0 : Below w.heap.size w w := Below.refl _ _
  by_cases h1 : betw i 1 4 = true
  case neg =>
    replace h1 : betw i 1 4 = false := by simpa using h1
    have HE := Lib.hid (validQ_no1 (q := (i, xs)) h1)
    go_enter Try.func16, Try.ntmps16
    obtain ⟨w1, hw1⟩ : ∃ W, W = w.alloc (.cells #[.int .i64 i, .slice ub un uc] 29) := ⟨_, rfl⟩
    have z1 : Below w.heap.size w w1 := by rw [hw1]; exact (Below.refl _ _).alloc (Nat.le_refl _) _
    have s1 : w1.heap.size = w.heap.size + 1 := by rw [hw1]; simp
    have hb1 := on hb0 z1
    have b_0 : w1.cell? ⟨w.heap.size, 0, none⟩ = some (.int .i64 i) := by rw [hw1]; exact box_cell (Below.refl _ _) rfl
    have b_1 : w1.cell? ⟨w.heap.size, 1, none⟩ = some (.slice ub un uc) := by rw [hw1]; exact box_cell (Below.refl _ _) rfl
    have raw1_b_0 := b_0
    have raw1_b_1 := b_1
    rw [hw1] at raw1_b_0 raw1_b_1
    go_wp2_with fail
    rw [← hw1]
    clear hw1
    clear raw1_b_0 raw1_b_1
    refine (l1In_any _ _ _ _).mono ?_
    rintro e w' ⟨rfl, rfl⟩
    clear hl
    go_wp2_with fail
    go_ret
    exact ⟨ret_bool HE.out.symm, hb1⟩
  by_cases h2 : betw un 1 4 = true
  case neg =>
    replace h2 : betw un 1 4 = false := by simpa using h2
    have HE := Lib.hid (validQ_no2 (q := (i, xs)) (by simp only []; rw [hl]; exact h2))
    go_enter Try.func16, Try.ntmps16
    obtain ⟨w2, hw2⟩ : ∃ W, W = w.alloc (.cells #[.int .i64 i, .slice ub un uc] 29) := ⟨_, rfl⟩
    have z2 : Below w.heap.size w w2 := by rw [hw2]; exact (Below.refl _ _).alloc (Nat.le_refl _) _
    have s2 : w2.heap.size = w.heap.size + 1 := by rw [hw2]; simp
    have hb2 := on hb0 z2
    have b_0 : w2.cell? ⟨w.heap.size, 0, none⟩ = some (.int .i64 i) := by rw [hw2]; exact box_cell (Below.refl _ _) rfl
    have b_1 : w2.cell? ⟨w.heap.size, 1, none⟩ = some (.slice ub un uc) := by rw [hw2]; exact box_cell (Below.refl _ _) rfl
    have raw2_b_0 := b_0
    have raw2_b_1 := b_1
    rw [hw2] at raw2_b_0 raw2_b_1
    go_wp2_with fail
    rw [← hw2]
    clear hw2
    clear raw2_b_0 raw2_b_1
    refine (l1In_any _ _ _ _).mono ?_
    rintro e w' ⟨rfl, rfl⟩
    go_wp2_with fail
    refine (l1In_any _ _ _ _).mono ?_
    rintro e w' ⟨rfl, rfl⟩
    clear hl
    go_wp2_with fail
    go_ret
    exact ⟨ret_bool HE.out.symm, hb2⟩
  have h3 := h1
  simp only [betw, Bool.and_eq_true, decide_eq_true_eq] at h3
  obtain ⟨n, rfl⟩ := Int.eq_ofNat_of_zero_le (show 0 ≤ i by omega)
  have hn1 : 1 ≤ n ∧ n ≤ 4 := by omega
  obtain ⟨hn1, hn4⟩ := hn1
  clear h3 hi1 hi2
  have HV := Lib.hid (validQ_go (xs := xs) h1 (by rw [hl]; exact h2))
  have H2 := Lib.hid h2
  go_enter Try.func16, Try.ntmps16
  obtain ⟨w3, hw3⟩ : ∃ W, W = w.alloc (.cells #[.int .i64 n, .slice ub un uc] 29) := ⟨_, rfl⟩
  have z3 : Below w.heap.size w w3 := by rw [hw3]; exact (Below.refl _ _).alloc (Nat.le_refl _) _
  have s3 : w3.heap.size = w.heap.size + 1 := by rw [hw3]; simp
  have hb3 := on hb0 z3
  have b_0 : w3.cell? ⟨w.heap.size, 0, none⟩ = some (.int .i64 n) := by rw [hw3]; exact box_cell (Below.refl _ _) rfl
  have b_1 : w3.cell? ⟨w.heap.size, 1, none⟩ = some (.slice ub un uc) := by rw [hw3]; exact box_cell (Below.refl _ _) rfl
  have raw3_b_0 := b_0
  have raw3_b_1 := b_1
  rw [hw3] at raw3_b_0 raw3_b_1
  go_wp2_with fail
  rw [← hw3]
  clear hw3
  clear raw3_b_0 raw3_b_1
  refine (l1In_any _ _ _ _).mono ?_
  rintro e w' ⟨rfl, rfl⟩
  go_wp2_with fail
  refine (l1In_any _ _ _ _).mono ?_
  rintro e w' ⟨rfl, rfl⟩
  go_wp2_with fail
  clear h1 h2
  go_loopw [3, 4] (fun s k wr => ∃ j m : Nat, j ≤ un ∧ m < 2 ^ n ∧ k = .int .i64 j ∧ s = .int .i64 m ∧ Hid (validQ ((n : Int), xs) = validFrom n m (xs.drop j)) ∧ Below w3.heap.size w3 wr) (fun _ k _ => un - (intOf k).toNat)
  case atStart => exact ⟨0, 0, Nat.zero_le _, Nat.two_pow_pos _, rfl, rfl, HV.out, Below.refl _ _⟩
  case round =>
    obtain ⟨j, m, hj, hm, rfl, rfl, hE, hdr⟩ := hrel
    obtain ⟨wo, rfl⟩ : ∃ W, W = wr := ⟨_, rfl⟩
    have hlc := hdr
    have s4 := hdr.size
    have hb4 := on hb3 hdr
    replace b_0 := (hdr.cell (p := ⟨w.heap.size, 0, none⟩) (by simp only []; omega)).trans b_0
    replace b_1 := (hdr.cell (p := ⟨w.heap.size, 1, none⟩) (by simp only []; omega)).trans b_1
    have t0 := rS_sl g1
    have hm16 := pow_le16 hn4
    by_cases hlt : j < un
    · obtain ⟨b1, o1, cs, x, rfl, hx, hr, hc⟩ := t0.at hlt
      obtain ⟨s, vs⟩ := x
      obtain ⟨vb, vn, vc, rfl, hs, g2⟩ := rA_open hr
      simp only at hs g2
      have i0 := rI_ints g2
      have hvl := i0.len
      have hvs := i0.small
      obtain ⟨hvc, hvc2⟩ := rS_cap g2
      have e_lt : b1 < w.heap.size := cell_lt (hc 0 _ rfl)
      have e_0 : wo.cell? ⟨b1, o1 + j * 2, none⟩ = some (.string s) := (hb4.cell (p := ⟨b1, o1 + j * 2, none⟩) e_lt).trans (by have h9 := hc 0 _ rfl; rw [← Nat.add_assoc] at h9; exact h9)
      have e_1 : wo.cell? ⟨b1, o1 + j * 2 + 1, none⟩ = some (.slice vb vn vc) := (hb4.cell (p := ⟨b1, o1 + j * 2 + 1, none⟩) e_lt).trans (by have h9 := hc 1 _ rfl; rw [← Nat.add_assoc] at h9; exact h9)
      have HA := Lib.hid (hE.out.trans (validFrom_at hx.out))
      clear hc t0 hr hl hx hE i0 HV
      obtain ⟨w5, hw5⟩ : ∃ W, W = wo.alloc (.cells #[.string s, .slice vb vn vc] 46) := ⟨_, rfl⟩
      have z5 : Below wo.heap.size wo w5 := by rw [hw5]; exact (Below.refl _ _).alloc (Nat.le_refl _) _
      have s5 : w5.heap.size = wo.heap.size + 1 := by rw [hw5]; simp
      have hb5 := on hb4 z5
      have old5_b_0 := b_0
      have old5_b_1 := b_1
      have old5_e_0 := e_0
      have old5_e_1 := e_1
      replace b_0 := (z5.cell (p := ⟨w.heap.size, 0, none⟩) (by simp only []; omega)).trans b_0
      replace b_1 := (z5.cell (p := ⟨w.heap.size, 1, none⟩) (by simp only []; omega)).trans b_1
      replace hlc := on hlc z5
      replace e_0 := (z5.cell (p := ⟨b1, o1 + j * 2, none⟩) (by simp only []; omega)).trans e_0
      replace e_1 := (z5.cell (p := ⟨b1, o1 + j * 2 + 1, none⟩) (by simp only []; omega)).trans e_1
      have p_0 : w5.cell? ⟨wo.heap.size, 0, none⟩ = some (.string s) := by rw [hw5]; exact box_cell (Below.refl _ _) rfl
      have p_1 : w5.cell? ⟨wo.heap.size, 1, none⟩ = some (.slice vb vn vc) := by rw [hw5]; exact box_cell (Below.refl _ _) rfl
      have raw5_b_0 := b_0
      have raw5_b_1 := b_1
      have raw5_e_0 := e_0
      have raw5_e_1 := e_1
      have raw5_p_0 := p_0
      have raw5_p_1 := p_1
      rw [hw5] at raw5_b_0 raw5_b_1 raw5_e_0 raw5_e_1 raw5_p_0 raw5_p_1
      by_cases h1 : nameB s = true
      case neg =>
        replace h1 : nameB s = false := by simpa using h1
        have HE := Lib.hid (show validQ ((n : Int), xs) = false by rw [HA.out]; simp [h1])
        go_wp2_with fail
        rw [← hw5]
        clear hw5
        clear old5_b_0 old5_b_1 old5_e_0 old5_e_1 raw5_b_0 raw5_b_1 raw5_e_0 raw5_e_1 raw5_p_0 raw5_p_1
        refine (l4Name_any _ _ hs).mono ?_
        rintro e w' ⟨rfl, rfl⟩
        go_wp2_with fail
        go_ret
        exact ⟨ret_bool HE.out.symm, hb5⟩
      by_cases h2 : betw vn 1 3 = true
      case neg =>
        replace h2 : betw vn 1 3 = false := by simpa using h2
        have HE := Lib.hid (show validQ ((n : Int), xs) = false by rw [HA.out]; simp [hvl, h2])
        go_wp2_with fail
        rw [← hw5]
        clear hw5
        clear old5_b_0 old5_b_1 old5_e_0 old5_e_1 raw5_b_0 raw5_b_1 raw5_e_0 raw5_e_1 raw5_p_0 raw5_p_1
        refine (l4Name_any _ _ hs).mono ?_
        rintro e w' ⟨rfl, rfl⟩
        go_wp2_with fail
        refine (l1In_any _ _ _ _).mono ?_
        rintro e w' ⟨rfl, rfl⟩
        go_wp2_with fail
        go_ret
        exact ⟨ret_bool HE.out.symm, hb5⟩
      have HA2 := Lib.hid (show validQ ((n : Int), xs) = (varsFrom n (vs.take 0) (vs.drop 0) && validFrom n (vbits m (vs.drop 0)) (xs.drop (j + 1))) by rw [HA.out]; simp [h1, hvl, h2])
      clear HA
      go_wp2_with fail
      rw [← hw5]
      clear hw5
      clear old5_b_0 old5_b_1 old5_e_0 old5_e_1 raw5_b_0 raw5_b_1 raw5_e_0 raw5_e_1 raw5_p_0 raw5_p_1
      refine (l4Name_any _ _ hs).mono ?_
      rintro e w' ⟨rfl, rfl⟩
      go_wp2_with fail
      refine (l1In_any _ _ _ _).mono ?_
      rintro e w' ⟨rfl, rfl⟩
      have h3 := h2
      simp only [betw, Bool.and_eq_true, decide_eq_true_eq] at h3
      go_wp2_with fail
      clear h1 h2
      go_loopw [3, 6] (fun s k wr => ∃ i m : Nat, i ≤ vn ∧ m < 2 ^ n ∧ k = .int .i64 i ∧ s = .int .i64 m ∧ Hid (validQ ((n : Int), xs) = (varsFrom n (vs.take i) (vs.drop i) && validFrom n (vbits m (vs.drop i)) (xs.drop (j + 1)))) ∧ Drew w5 wr) (fun _ k _ => vn - (intOf k).toNat)
      case atStart => exact ⟨0, m, Nat.zero_le _, hm, rfl, rfl, HA2.out, Drew.refl _⟩
      case round =>
        obtain ⟨i, m, hi, hm, rfl, rfl, hE, hdr⟩ := hrel
        have hlo := hdr
        replace hdr : Below w5.heap.size w5 wr := hdr.below _
        have s6 := hdr.size
        have hb6 := on hb5 hdr
        replace b_0 := (hdr.cell (p := ⟨w.heap.size, 0, none⟩) (by simp only []; omega)).trans b_0
        replace b_1 := (hdr.cell (p := ⟨w.heap.size, 1, none⟩) (by simp only []; omega)).trans b_1
        replace hlc := on hlc hdr
        replace e_0 := (hdr.cell (p := ⟨b1, o1 + j * 2, none⟩) (by simp only []; omega)).trans e_0
        replace e_1 := (hdr.cell (p := ⟨b1, o1 + j * 2 + 1, none⟩) (by simp only []; omega)).trans e_1
        replace p_0 := (hdr.cell (p := ⟨wo.heap.size, 0, none⟩) (by simp only []; omega)).trans p_0
        replace p_1 := (hdr.cell (p := ⟨wo.heap.size, 1, none⟩) (by simp only []; omega)).trans p_1
        have hm16 := pow_le16 hn4
        have i0 := rI_ints g2
        by_cases hlv : i < vn
        · obtain ⟨b2, o2, v, rfl, hc, hv, hv1, hv2⟩ := i0.get hlv
          have v0_lt : b2 < w.heap.size := cell_lt hc
          have v0 : wr.cell? ⟨b2, o2 + i, none⟩ = some (.int .i64 v) := (hb6.cell (p := ⟨b2, o2 + i, none⟩) v0_lt).trans hc
          clear hc
          by_cases h4 : betw v 0 ((n : Int) - 1) = true
          case neg =>
            replace h4 : betw v 0 ((n : Int) - 1) = false := by simpa using h4
            have HE := Lib.hid (show validQ ((n : Int), xs) = false by rw [hE.out, vars_no (by omega) hv.out (by simp [h4])]; rfl)
            clear i0 hvl
            go_wp2_with fail
            go_quiet ((go_at_call 34; exact quiet_same (l1In_any _ _ _ _)))
            go_wp2_with fail
            go_ret
            exact ⟨ret_bool HE.out.symm, onD hb6 ⟨_, rfl⟩⟩
          have hcall := fun q => l7Has_any (some ⟨b2, o2, none⟩) i vc (vs.take i) v (wr.drewN q) (((i0.takeTo (by omega)).below hb6).drewN q)
          obtain ⟨t, ht⟩ : ∃ t, t = has (vs.take i) v := ⟨_, rfl⟩
          rw [← ht] at hcall
          have HC := Lib.hid hcall
          clear hcall
          have h5 := h4
          simp only [betw, Bool.and_eq_true, decide_eq_true_eq] at h5
          obtain ⟨v, rfl⟩ := Int.eq_ofNat_of_zero_le h5.1
          have hvn : v < n := by omega
          clear h5
          cases t with
          | true =>
            have HE := Lib.hid (show validQ ((n : Int), xs) = false by rw [hE.out, vars_no (by omega) hv.out (by rw [← ht]; simp)]; rfl)
            clear i0 hvl ht
            go_wp2_with fail
            go_quiet ((first | (go_at_call 34; exact quiet_same (l1In_any _ _ _ _)) | (go_at_call 36; exact quiet_same (HC.out _))))
            go_wp2_with fail
            go_ret
            exact ⟨ret_bool HE.out.symm, onD hb6 ⟨_, rfl⟩⟩
          | false =>
            have HE := Lib.hid (hE.out.trans (show _ = (varsFrom n (vs.take (i + 1)) (vs.drop (i + 1)) && validFrom n (vbits (m ||| 2 ^ v) (vs.drop (i + 1))) (xs.drop (j + 1))) by rw [vars_yes (by omega) hv.out h4 ht.symm, vbits_at (by omega) hv.out]))
            have hmo := or_lt hm hvn
            clear i0 hvl ht
            go_wp2_with fail
            go_quiet ((first | (go_at_call 34; exact quiet_same (l1In_any _ _ _ _)) | (go_at_call 36; exact quiet_same (HC.out _))))
            go_wp2_with fail
            go_roundw
            case rel => exact ⟨i + 1, m ||| 2 ^ v, by omega, hmo, by go_num, by show Value.int _ _ = _; first | (rw [or_pow (by omega) (by omega)]) | (rw [← or_pow (m := m) (v := v) (by omega) (by omega)]; rfl), HE.out, hlo.step _⟩
            case measure => simp [intOf]; omega
        · have HE := Lib.hid (show validQ ((n : Int), xs) = validFrom n m (xs.drop (j + 1)) by rw [hE.out, vars_end (by omega), vbits_end (by omega)]; rfl)
          clear i0 hvl
          go_wp2_with fail
          go_roundw
          case rel => exact ⟨j + 1, m, by omega, hm, by go_num, rfl, HE.out, hlc⟩
          case measure => simp [intOf]; omega
    · have HE := Lib.hid (hE.out.trans (validFrom_end (by omega)))
      clear t0 hl hE HV
      go_wp2_with fail
      go_ret
      exact ⟨ret_bool (by rw [HE.out]; exact full_eq (by omega)), hb4⟩

end Go.Proofs.Ytigcagplbihenaa

/- Contracts: names of variables, digits, and texts of rows. -/
namespace Go.Proofs.Ytigcagplbihenaa
open Go.RowKit
set_option linter.unusedVariables false
set_option linter.unusedSimpArgs false

abbrev bs (l : List UInt8) : ByteArray := ⟨l.toArray⟩
theorem bs_size (l : List UInt8) : (bs l).size = l.length := by simp [bs, ByteArray.size]
theorem bs_app (l m : List UInt8) : bs l ++ bs m = bs (l ++ m) := by
  apply ByteArray.ext
  simp [bs]
/-- A variable's name. -/
def chV (v : Int) : List UInt8 := if v = 0 then [88] else if v = 1 then [89] else if v = 2 then [90] else if v = 3 then [85] else []
theorem chV_no {v : Int} (h : betw v 0 3 = false) : chV v = [] := by
  simp only [betw, Bool.and_eq_false_iff, decide_eq_false_iff_not] at h
  unfold chV
  rw [if_neg (by omega), if_neg (by omega), if_neg (by omega), if_neg (by omega)]
theorem chV_len (v : Int) : (chV v).length ≤ 1 := by
  unfold chV
  split
  · simp
  · split
    · simp
    · split
      · simp
      · split <;> simp
def namesOf (vs : List Int) : List UInt8 := vs.flatMap chV
theorem namesOf_len (vs : List Int) : (namesOf vs).length ≤ vs.length := by
  induction vs with
  | nil => simp [namesOf]
  | cons v t ih =>
    have := chV_len v
    simp only [namesOf, List.flatMap_cons, List.length_append, List.length_cons] at ih ⊢
    omega
theorem namesOf_snoc {vs : List Int} {j : Nat} {v : Int} (hj : j < vs.length) (hv : vs.getD j 0 = v) : namesOf (vs.take (j + 1)) = namesOf (vs.take j) ++ chV v := by
  rw [take_snoc vs j hj, hv]; simp [namesOf]

theorem varName_impl (v : Int) (w : World) :
    Calls Try.prog 43 #[.int .i64 v] w fun e w' => e = .returned (.string (bs (chV v))) ∧ w = w' := by
  have hin := within_any v 0 3 w
  obtain ⟨b, hb⟩ : ∃ b, betw v 0 3 = b := ⟨_, rfl⟩
  rw [hb] at hin
  have HIN := Lib.hid hin
  clear hin
  cases b with
  | false =>
    have HE := Lib.hid (chV_no hb)
    clear hb
    go_enter Try.func43, Try.ntmps43
    go_wp2_with fail
    refine HIN.out.mono ?_
    rintro e w' ⟨rfl, rfl⟩
    go_wp2_with fail
    go_ret
    exact ⟨by rw [HE.out]; rfl, rfl⟩
  | true =>
    simp only [betw, Bool.and_eq_true, decide_eq_true_eq] at hb
    rcases (by omega : v = 0 ∨ v = 1 ∨ v = 2 ∨ v = 3) with rfl | rfl | rfl | rfl
    all_goals
      go_enter Try.func43, Try.ntmps43
      go_wp2_with fail
      refine HIN.out.mono ?_
      rintro e w' ⟨rfl, rfl⟩
      go_wp2_with fail
      go_ret
      exact ⟨by rfl, rfl⟩

theorem varName_spec (v : Int) (w : World) :
    Calls Try.prog 37 #[.int .i64 v] w fun e w' => e = .returned (.string (bs (chV v))) ∧ w = w' := by
  have hin := l1In_any v 0 3 w
  obtain ⟨b, hb⟩ : ∃ b, betw v 0 3 = b := ⟨_, rfl⟩
  rw [hb] at hin
  have HIN := Lib.hid hin
  clear hin
  cases b with
  | false =>
    have HE := Lib.hid (chV_no hb)
    clear hb
    go_enter Try.func37, Try.ntmps37
    go_wp2_with fail
    refine HIN.out.mono ?_
    rintro e w' ⟨rfl, rfl⟩
    go_wp2_with fail
    go_ret
    exact ⟨by rw [HE.out]; rfl, rfl⟩
  | true =>
    simp only [betw, Bool.and_eq_true, decide_eq_true_eq] at hb
    rcases (by omega : v = 0 ∨ v = 1 ∨ v = 2 ∨ v = 3) with rfl | rfl | rfl | rfl
    all_goals
      go_enter Try.func37, Try.ntmps37
      go_wp2_with fail
      refine HIN.out.mono ?_
      rintro e w' ⟨rfl, rfl⟩
      go_wp2_with fail
      go_ret
      exact ⟨by rfl, rfl⟩

theorem names_impl (v : Value) (vs : List Int) (w : World) (h : rI.rep w [v] vs) (hn : vs.length ≤ 1048576) :
    Calls Try.prog 20 #[v] w fun e w' => e = .returned (.string (bs (namesOf vs))) ∧ w = w' := by
  obtain ⟨b, n, c, hv⟩ := rI_form h
  simp at hv
  subst hv
  have iv := rI_ints h
  have hl := iv.len
  clear h
  go_enter Try.func20, Try.ntmps20
  go_wp2_with fail
  go_loopw [3, 8] (fun s k wr => ∃ j : Nat, j ≤ n ∧ k = .int .i64 j ∧ s = .string (bs (namesOf (vs.take j))) ∧ w = wr) (fun _ k _ => n - (intOf k).toNat)
  case atStart => exact ⟨0, Nat.zero_le _, rfl, rfl, rfl⟩
  case round =>
    obtain ⟨j, hj, rfl, rfl, rfl⟩ := hrel
    by_cases hlt : j < n
    · obtain ⟨b0, o0, x, rfl, hc, hx, hx1, hx2⟩ := iv.get hlt
      have HS := Lib.hid (namesOf_snoc (show j < vs.length by omega) hx.out)
      have HV := Lib.hid (varName_impl x w)
      have hz : ¬ 9223372036854775807 < (bs (namesOf (vs.take j))).size + (bs (chV x)).size := by
        rw [bs_size, bs_size]
        have h1 := namesOf_len (vs.take j)
        have h2 := chV_len x
        have h3 := List.length_take_le j vs
        omega
      clear iv hx
      go_wp2_with fail
      refine HV.out.mono ?_
      rintro e w' ⟨rfl, rfl⟩
      go_wp2_with fail
      go_roundw
      case rel => exact ⟨j + 1, by omega, by go_num, by rw [HS.out, ← bs_app], trivial⟩
      case measure => simp [intOf]; omega
    · have hjn : j = n := by omega
      have HE : Hid (namesOf (vs.take j) = namesOf vs) := Lib.hid (by rw [List.take_of_length_le (by omega)])
      go_wp2_with fail
      go_ret
      exact ⟨by rw [← HE.out]; rfl, rfl⟩

theorem names_spec (v : Value) (vs : List Int) (w : World) (h : rI.rep w [v] vs) (hn : vs.length ≤ 1048576) :
    Calls Try.prog 17 #[v] w fun e w' => e = .returned (.string (bs (namesOf vs))) ∧ w = w' := by
  obtain ⟨b, n, c, hv⟩ := rI_form h
  simp at hv
  subst hv
  have iv := rI_ints h
  have hl := iv.len
  clear h
  go_enter Try.func17, Try.ntmps17
  go_wp2_with fail
  go_loopw [3, 4] (fun s k wr => ∃ j : Nat, j ≤ n ∧ k = .int .i64 j ∧ s = .string (bs (namesOf (vs.take j))) ∧ w = wr) (fun _ k _ => n - (intOf k).toNat)
  case atStart => exact ⟨0, Nat.zero_le _, rfl, rfl, rfl⟩
  case round =>
    obtain ⟨j, hj, rfl, rfl, rfl⟩ := hrel
    by_cases hlt : j < n
    · obtain ⟨b0, o0, x, rfl, hc, hx, hx1, hx2⟩ := iv.get hlt
      have HS := Lib.hid (namesOf_snoc (show j < vs.length by omega) hx.out)
      have HV := Lib.hid (varName_spec x w)
      have hz : ¬ 9223372036854775807 < (bs (namesOf (vs.take j))).size + (bs (chV x)).size := by
        rw [bs_size, bs_size]
        have h1 := namesOf_len (vs.take j)
        have h2 := chV_len x
        have h3 := List.length_take_le j vs
        omega
      clear iv hx
      go_wp2_with fail
      refine HV.out.mono ?_
      rintro e w' ⟨rfl, rfl⟩
      go_wp2_with fail
      go_roundw
      case rel => exact ⟨j + 1, by omega, by go_num, by rw [HS.out, ← bs_app], trivial⟩
      case measure => simp [intOf]; omega
    · have hjn : j = n := by omega
      have HE : Hid (namesOf (vs.take j) = namesOf vs) := Lib.hid (by rw [List.take_of_length_le (by omega)])
      go_wp2_with fail
      go_ret
      exact ⟨by rw [← HE.out]; rfl, rfl⟩

/-! Digits -/

def chD (d : Int) : UInt8 := UInt8.ofNat (48 + d.toNat)
theorem chD_nat {d : Nat} (h : d ≤ 9) : ((chD (d : Int)).toNat : Int) = 48 + (d : Int) := by
  rw [chD, Int.toNat_natCast, UInt8.toNat_ofNat', Nat.mod_eq_of_lt (by omega)]; omega
def digsOf (row : List Int) : List UInt8 := row.map chD
theorem digsOf_len (row : List Int) : (digsOf row).length = row.length := by simp [digsOf]
theorem digsOf_snoc {row : List Int} {j : Nat} {v : Int} (hj : j < row.length) (hv : row.getD j 0 = v) : digsOf (row.take (j + 1)) = digsOf (row.take j) ++ [chD v] := by
  rw [take_snoc row j hj, hv]; simp [digsOf]

set_option maxRecDepth 100000 in
theorem fmtInt_dig (d : Nat) (hd : d ≤ 9) (w : World) :
    Calls Try.prog 50 #[.int .i64 (d : Int)] w fun e w' => e = .returned (.string (bs [chD (d : Int)])) ∧ Below w.heap.size w w' := by
  rcases Nat.eq_zero_or_pos d with rfl | hpos
  · go_enter Try.func50, Try.ntmps50
    go_wp2_with fail
    go_ret
    exact ⟨by rfl, Below.refl _ _⟩
  · have hc2 := chD_nat hd
    obtain ⟨c, hcc⟩ : ∃ c, chD (d : Int) = c := ⟨_, rfl⟩
    rw [hcc] at hc2 ⊢
    have hne : ((d : Int) == 0) = false := by rw [beq_eq_false_iff_ne]; omega
    have hbn : ((d : Int) != 0) = true := by rw [bne_iff_ne]; omega
    have hm : (d : Int) % 10 = (d : Int) := by omega
    have hq : (d : Int) / 10 = 0 := by omega
    have hcv := run_convert_bytes_back (P := Try.prog) (w.alloc (.cells #[Value.int .u8 (48 + (d : Int))] 5)) 70 9 5 ⟨w.heap.size, 0, none⟩ 1 [c] Try.underlying70 Try.underlying5 Try.underlying9 (fun j hj => by
        obtain rfl : j = 0 := by simp at hj; exact hj
        rw [add_zero_addr, box_cell (i := 0) (Below.refl _ _) rfl, ← hc2]; rfl)
    simp only [List.length_cons, List.length_nil, Nat.zero_add] at hcv
    have hz1 : ¬ 9223372036854775807 < (bs [c]).size + (ByteArray.mk #[]).size := by rw [bs_size]; simp [ByteArray.size]
    clear hcc hc2
    go_enter Try.func50, Try.ntmps50
    go_wp2_with fail
    go_loopw [0, 3] (fun q s wr => (q = .int .i64 (d : Int) ∧ s = .string ⟨#[]⟩ ∧ w = wr) ∨ (q = .int .i64 0 ∧ s = .string (bs [c]) ∧ Below w.heap.size w wr)) (fun q _ _ => (intOf q).toNat)
    case atStart => exact .inl ⟨rfl, rfl, rfl⟩
    case round =>
      rcases hrel with ⟨rfl, rfl, rfl⟩ | ⟨rfl, rfl, hB⟩
      · go_wp2_with fail
        go_roundw
        case rel => exact .inr ⟨rfl, by show Value.string _ = Value.string _; congr 1, (Below.refl _ _).alloc (Nat.le_refl _) _⟩
        case measure => simp [intOf]; omega
      · clear hcv
        go_wp2_with fail
        go_ret
        exact ⟨by rfl, hB⟩

set_option maxHeartbeats 1000000 in
theorem l4Digits_any (v : Value) (row : List Int) (w : World) (h : rI.rep w [v] row) (hn : row.length ≤ 1048576) (hr : ∀ x ∈ row, 0 ≤ x ∧ x ≤ 9) :
    Calls Try.prog 26 #[v] w fun e w' => e = .returned (.string (bs (digsOf row))) ∧ Below w.heap.size w w' := by
  obtain ⟨b, n, c, hv⟩ := rI_form h
  simp at hv
  subst hv
  have iv := rI_ints h
  have hl := iv.len
  have HR := Lib.hid hr
  clear h hr
  have hb0 : Below w.heap.size w w := Below.refl _ _
  go_enter Try.func26, Try.ntmps26
  go_wp2_with fail
  go_loopw [3, 4] (fun s k wr => ∃ j : Nat, j ≤ n ∧ k = .int .i64 j ∧ s = .string (bs (digsOf (row.take j))) ∧ Below w.heap.size w wr) (fun _ k _ => n - (intOf k).toNat)
  case atStart => exact ⟨0, Nat.zero_le _, rfl, rfl, Below.refl _ _⟩
  case round =>
    obtain ⟨j, hj, rfl, rfl, hdr⟩ := hrel
    have s1 := hdr.size
    have hb1 := on hb0 hdr
    by_cases hlt : j < n
    · obtain ⟨b0, o0, x, rfl, hc, hx, hx1, hx2⟩ := iv.get hlt
      have hxr := HR.out x (by
        rw [← hx.out, List.getD_eq_getElem?_getD, List.getElem?_eq_getElem (by omega)]; exact List.getElem_mem _)
      obtain ⟨d, rfl⟩ := Int.eq_ofNat_of_zero_le hxr.1
      have HS := Lib.hid (digsOf_snoc (show j < row.length by omega) hx.out)
      have hc0 : wr.cell? ⟨b0, o0 + j, none⟩ = some (.int .i64 (d : Int)) := ((hb1).cell (p := ⟨b0, o0 + j, none⟩) (cell_lt hc)).trans hc
      have HF := Lib.hid (fmtInt_dig d (by omega) wr)
      have hz : ¬ 9223372036854775807 < (bs (digsOf (row.take j))).size + (bs [chD (d : Int)]).size := by
        rw [bs_size, bs_size, digsOf_len]
        have h3 := List.length_take_le j row
        simp
        omega
      clear iv hx hc hxr
      go_wp2_with fail
      refine HF.out.mono ?_
      rintro e w5 ⟨rfl, z5⟩
      have s2 := z5.size
      have hb2 := on hb1 z5
      go_wp2_with fail
      go_roundw
      case rel => exact ⟨j + 1, by omega, by go_num, by rw [HS.out, ← bs_app], hb2⟩
      case measure => simp [intOf]; omega
    · have HE : Hid (digsOf (row.take j) = digsOf row) := Lib.hid (by rw [List.take_of_length_le (by omega)])
      go_wp2_with fail
      go_ret
      exact ⟨by rw [← HE.out]; rfl, hb1⟩

/-- A byte, owned. -/
def O.u8 : OS UInt8 := ⟨1, fun _ cs x fp => cs = [.int .u8 (x.toNat : Int)] ∧ fp = [], fun h => by rw [h.1]; rfl, fun h _ => h, fun h k hk => by rw [h.2] at hk; cases hk⟩
theorem infoU8 : (Try.prog.info? 5).map (fun i => (i.zero, i.size, i.bytes)) = some (some (.int .u8 0), 1, 1) := by kernel_rfl
/-- The bytes of an owned slice read as a string. -/
theorem bytes_back {lo S hi : Nat} {w : World} {a : Option Addr} {n c : Nat} {l : List UInt8} (h : Acc 5 O.u8 lo S hi w (.slice a n c) l) : (convert 70 9 (.slice a n c)).run Try.prog w = .ok (.string (bs l)) w := by
  obtain ⟨fp, ⟨v1, css, fps, hv, _, h1, h2⟩, _⟩ := h
  simp at hv
  subst hv
  obtain ⟨a', cap', he, hn, hb⟩ := own_form h1
  simp at he
  obtain ⟨rfl, rfl, rfl⟩ := he
  rcases h1.2 with ⟨h3, h4⟩ | ⟨g, cap, cur, h3, _⟩
  · simp at h3
    obtain ⟨rfl, h5, rfl⟩ := h3
    subst h5
    simp only [List.length_nil]
    rw [run_convert_bytes_string (P := Try.prog) w 70 9 5 none 0 0 Try.underlying70 Try.underlying5 Try.underlying9]
    rfl
  · simp at h3
    obtain ⟨rfl, rfl⟩ := h3
    refine run_convert_bytes_back (P := Try.prog) w 70 9 5 ⟨g, 0, none⟩ _ l Try.underlying70 Try.underlying5 Try.underlying9 (fun j hj => ?_)
    obtain ⟨cj, f, hc, hf, hr⟩ := O.u8.rows_get h2 j _ (List.getElem?_eq_getElem hj)
    obtain ⟨rfl, _⟩ := hr
    have h9 := flatten_get O.u8 h2 j 0 _ _ hc (show [Value.int .u8 (l[j].toNat : Int)][0]? = some _ from rfl)
    have e : j * O.u8.size + 0 = j := by show j * 1 + 0 = j; omega
    rw [e] at h9
    obtain ⟨g2, hg2, hcell⟩ := own_cell h1 j _ h9
    simp at hg2
    subst hg2
    rw [add_zero_addr]
    exact hcell

set_option maxHeartbeats 1000000 in
theorem digitsText_any (v : Value) (row : List Int) (w : World) (h : rI.rep w [v] row) (hn : row.length ≤ 1048576) (hr : ∀ x ∈ row, 0 ≤ x ∧ x ≤ 9) :
    Calls Try.prog 53 #[v] w fun e w' => e = .returned (.string (bs (digsOf row))) ∧ Below w.heap.size w w' := by
  obtain ⟨b, n, c, hv⟩ := rI_form h
  simp at hv
  subst hv
  have iv := rI_ints h
  have hl := iv.len
  have HR := Lib.hid hr
  clear h hr
  have hb0 : Below w.heap.size w w := Below.refl _ _
  go_enter Try.func53, Try.ntmps53
  obtain ⟨w1, hw1⟩ : ∃ W, W = w.alloc (.cells #[] 5) := ⟨_, rfl⟩
  have z1 : Below w.heap.size w w1 := by rw [hw1]; exact (Below.refl _ _).alloc (Nat.le_refl _) _
  have s1 : w1.heap.size = w.heap.size + 1 := by rw [hw1]; simp
  have hb1 := on hb0 z1
  have he : ∀ S, Acc 5 O.u8 w.heap.size S w1.heap.size w1 (.slice (some ⟨w.heap.size, 0, none⟩) 0 0) [] := fun S => by rw [hw1]; exact Acc.empty (by omega) (by first | (simp; done) | (simp; omega))
  go_wp2_with fail
  rw [← hw1]
  clear hw1
  go_loopw [3, 9] (fun v k wr => ∃ j : Nat, j ≤ n ∧ k = .int .i64 j ∧ Acc 5 O.u8 w.heap.size w1.heap.size wr.heap.size wr v (digsOf (row.take j)) ∧ Turn w.heap.size (w.heap.size + 1) w1 wr) (fun _ k _ => n - (intOf k).toNat)
  case atStart => exact ⟨0, Nat.zero_le _, rfl, (he _).wide (Nat.le_refl _) (by omega), turn_refl _ _ _⟩
  case round =>
    obtain ⟨j, hj, rfl, hacc, hdr⟩ := hrel
    have hlc := hdr
    clear he
    have s2 := hdr.size
    have hb2 := hb1.trans ((hdr.below (by omega)).mono (by omega))
    by_cases hlt : j < n
    · obtain ⟨b0, o0, x, rfl, hc, hx, hx1, hx2⟩ := iv.get hlt
      have hxr := HR.out x (by
        rw [← hx.out, List.getD_eq_getElem?_getD, List.getElem?_eq_getElem (by omega)]; exact List.getElem_mem _)
      obtain ⟨d, rfl⟩ := Int.eq_ofNat_of_zero_le hxr.1
      have HS := Lib.hid (digsOf_snoc (show j < row.length by omega) hx.out)
      have hc0 : wr.cell? ⟨b0, o0 + j, none⟩ = some (.int .i64 (d : Int)) := ((hb2).cell (p := ⟨b0, o0 + j, none⟩) (cell_lt hc)).trans hc
      have hd9 : d ≤ 9 := by omega
      have hch := chD_nat hd9
      have hdl := digsOf_len (row.take j)
      have h3 := List.length_take_le j row
      obtain ⟨va, vn, vc, rfl⟩ := hacc.form3
      obtain ⟨v', wN, hrun, haccN, htN, hsN, _⟩ := run_acc Try.underlying70 infoU8 rfl (by decide) (by decide) rfl (lo := w.heap.size) (W0 := w1) 70 _ _ [.int .u8 (48 + (d : Int))] (chD (d : Int)) hacc (show Own O.u8 wr.heap.size wr.heap.size wr [.int .u8 (48 + (d : Int))] (chD (d : Int)) from ⟨[], ⟨by rw [hch], rfl⟩, by simp, by simp⟩) (by intro z hz; simp at hz; subst hz; rfl) (by omega) (Nat.le_refl _) (Nat.le_refl _) (Nat.le_refl _) hlc rfl (.inl rfl) (by omega) (by omega) rfl
      obtain ⟨va2, vn2, vc2, rfl⟩ := haccN.form3
      have HC9 := Lib.hid haccN
      have HT9 := Lib.hid htN
      clear hacc hlc haccN htN hc hx hxr iv hch
      go_wp2_with ((at_builtin; refine wpList_app_run hrun rfl rfl rfl rfl rfl ?_))
      go_roundw
      case rel => exact ⟨j + 1, by omega, by go_num, by rw [HS.out]; exact HC9.out, HT9.out⟩
      case measure => simp [intOf]; omega
    · have HE : Hid (digsOf (row.take j) = digsOf row) := Lib.hid (by rw [List.take_of_length_le (by omega)])
      obtain ⟨va, vn, vc, rfl⟩ := hacc.form3
      have hcv := bytes_back hacc
      rw [HE.out] at hcv
      clear hacc
      go_wp2_with fail
      go_ret
      exact ⟨by rfl, hb2⟩

end Go.Proofs.Ytigcagplbihenaa

/- Contracts: texts of rows, answers and queries, both ways. -/
namespace Go.Proofs.Ytigcagplbihenaa
open Go.RowKit
set_option linter.unusedVariables false
set_option linter.unusedSimpArgs false
set_option synthInstance.maxSize 2000
set_option synthInstance.maxHeartbeats 400000

theorem bs_of (s : ByteArray) : bs s.data.toList = s := by
  apply ByteArray.ext
  simp [bs]
/-- Words with a space between. -/
def spaced (ws : List (List UInt8)) : List UInt8 := Lib.join ws [32]
theorem spaced_snoc {ws : List (List UInt8)} {j : Nat} {y : List UInt8} (h : ws[j]? = some y) : spaced (ws.take (j + 1)) = (if j = 0 then y else spaced (ws.take j) ++ [32] ++ y) := by
  match ws with
  | [] => simp at h
  | x :: r =>
    cases j with
    | zero => simp at h; subst h; simp [spaced, Lib.join_one]
    | succ j =>
      rw [if_neg (by omega)]
      simp only [spaced, List.take_succ_cons, Lib.join_cons]
      rw [Lib.joinTail_take_succ [32] r j y (by simpa using h)]
      simp
theorem spaced_len (ws : List (List UInt8)) : (spaced ws).length ≤ ws.length + Lib.lens ws := by
  match ws with
  | [] => simp [spaced, Lib.join_nil, Lib.lens]
  | x :: r =>
    rw [spaced, Lib.join_cons, List.length_append, Lib.joinTail_length]
    simp [Lib.lens]
    omega
theorem lens_take (ws : List (List UInt8)) (j : Nat) : (spaced (ws.take j)).length ≤ ws.length + Lib.lens ws := by
  have h1 := spaced_len (ws.take j)
  have h2 := Lib.lens_take_le ws j
  have h3 := List.length_take_le j ws
  have h4 := List.length_take_le' j ws
  omega
theorem lens_digs (rows : List (List Int)) : Lib.lens (rows.map digsOf) = sumBy bulk_I rows := by
  simp only [Lib.lens, sumBy, List.map_map]
  congr 1
  apply List.map_congr_left
  intro r _
  simp [digsOf, bulk_I]
theorem infoStr : (Try.prog.info? 9).map (fun i => (i.zero, i.size, i.bytes)) = some (some (.string ⟨#[]⟩), 1, 16) := by kernel_rfl

/-- Words of the call's own, joined by the library. -/
theorem joined_any {lo S hi : Nat} {w : World} {a : Option Addr} {n c : Nat} {ws : List (List UInt8)} (h : Acc 9 O.str lo S hi w (.slice a n c) (ws.map bs)) (hlen : ws.length + Lib.lens ws ≤ 100000000) :
    Calls Try.prog 21 #[.slice a n c, .string ⟨#[32]⟩] w fun e w' => e = .returned (.string (bs (spaced ws))) ∧ Below w.heap.size w w' := by
  obtain ⟨fp, ⟨v1, css, fps, hv, _, h1, h2⟩, _⟩ := h
  simp at hv
  subst hv
  obtain ⟨a', cap', he, hn, hb⟩ := own_form h1
  simp at he
  obtain ⟨rfl, hnl, rfl⟩ := he
  have hnl2 : n = (ws.map bs).length := by rw [List.length_map]; exact hnl
  subst hnl2
  cases ws with
  | nil =>
    refine (Try.strings_Join_none a c ⟨#[32]⟩ w).mono ?_
    rintro e w' ⟨rfl, rfl⟩
    exact ⟨rfl, Below.refl _ _⟩
  | cons y r =>
    rcases h1.2 with ⟨h3, h4⟩ | ⟨g, cap, cur, h3, _, hg, _⟩
    · simp at h4
    · simp at h3
      obtain ⟨rfl, rfl⟩ := h3
      have hcells : ∀ (j : Nat) x, ((y :: r).map bs)[j]? = some x → w.cell? ⟨g, 0 + j, none⟩ = some (.string x) := fun j x hx => by
        obtain ⟨cj, f, hc, hf, hr⟩ := O.str.rows_get h2 j x hx
        obtain ⟨rfl, _, _⟩ := hr
        have h9 := flatten_get O.str h2 j 0 _ _ hc (show [Value.string x][0]? = some _ from rfl)
        have e : j * O.str.size + 0 = j := by show j * 1 + 0 = j; omega
        rw [e] at h9
        obtain ⟨g2, hg2, hcell⟩ := own_cell h1 j _ h9
        simp at hg2
        subst hg2
        rw [Nat.zero_add]
        exact hcell
      have hid9 : ((fun x : ByteArray => x.data.toList) ∘ bs) = id := by funext l; simp
      have hmap : ((y :: r).map bs).map (·.data.toList) = y :: r := by rw [List.map_map, hid9, List.map_id]
      have hsl := spaced_len (y :: r)
      have hc := own_cap h1
      have hj := Try.strings_Join g 0 _ ((y :: r).map bs) ⟨#[32]⟩ w hcells (Array.getElem?_eq_some_iff.1 hg).1 (by rw [List.length_map]; omega) hc.1 (by rw [hmap]; show (spaced (y :: r)).length ≤ _; omega)
      rw [hmap] at hj
      exact hj

set_option maxHeartbeats 1000000 in
theorem rowsText_any (v : Value) (rows : List (List Int)) (w : World) (h : rII.rep w [v] rows) (hr : ∀ r ∈ rows, ∀ x ∈ r, 0 ≤ x ∧ x ≤ 9) (hb : bulk_II rows ≤ 1048576) :
    Calls Try.prog 30 #[v] w fun e w' => e = .returned (.string (bs (spaced (rows.map digsOf)))) ∧ Below w.heap.size w w' := by
  obtain ⟨b, n, c, hv⟩ := rS_form h
  simp at hv
  subst hv
  have t0 := rS_sl h
  have hl := t0.len
  have HR := Lib.hid hr
  have hld := lens_digs rows
  unfold bulk_II at hb
  have hsum : ∀ r ∈ rows, bulk_I r ≤ sumBy bulk_I rows := fun r hr9 => by
    obtain ⟨i, hi, rfl⟩ := List.mem_iff_getElem.1 hr9
    exact sumBy_mem bulk_I (List.getElem?_eq_getElem hi)
  have HSM := Lib.hid hsum
  clear h hr hsum
  have hb0 : Below w.heap.size w w := Below.refl _ _
  go_enter Try.func30, Try.ntmps30
  obtain ⟨w1, hw1⟩ : ∃ W, W = w.alloc (.cells #[] 9) := ⟨_, rfl⟩
  have z1 : Below w.heap.size w w1 := by rw [hw1]; exact (Below.refl _ _).alloc (Nat.le_refl _) _
  have s1 : w1.heap.size = w.heap.size + 1 := by rw [hw1]; simp
  have hb1 := on hb0 z1
  have he : ∀ S, Acc 9 O.str w.heap.size S w1.heap.size w1 (.slice (some ⟨w.heap.size, 0, none⟩) 0 0) [] := fun S => by rw [hw1]; exact Acc.empty (by omega) (by first | (simp; done) | (simp; omega))
  go_wp2_with fail
  rw [← hw1]
  clear hw1
  go_loopw [3, 9] (fun v k wr => ∃ j : Nat, j ≤ n ∧ k = .int .i64 j ∧ Acc 9 O.str w.heap.size w1.heap.size wr.heap.size wr v (((rows.take j).map digsOf).map bs) ∧ Turn w.heap.size (w.heap.size + 1) w1 wr) (fun _ k _ => n - (intOf k).toNat)
  case atStart => exact ⟨0, Nat.zero_le _, rfl, (he _).wide (Nat.le_refl _) (by omega), turn_refl _ _ _⟩
  case round =>
    obtain ⟨j, hj, rfl, hacc, hdr⟩ := hrel
    have hlc := hdr
    clear he
    have s2 := hdr.size
    have hb2 := hb1.trans ((hdr.below (by omega)).mono (by omega))
    obtain ⟨va, vn, vc, rfl⟩ := hacc.form3
    by_cases hlt : j < n
    · obtain ⟨b0, o0, r1, m1, q1, x, rfl, hc, hx, hi, hq1, hq2⟩ := t0.row hlt
      have hc0 : wr.cell? ⟨b0, o0 + j, none⟩ = some (.slice r1 m1 q1) := ((hb2).cell (p := ⟨b0, o0 + j, none⟩) (cell_lt hc)).trans hc
      have hxm := List.mem_of_getElem? hx.out
      have hxb : x.length ≤ sumBy bulk_I rows := HSM.out x hxm
      have HD := Lib.hid (digitsText_any (.slice r1 m1 q1) x wr (rS_mk (hi.below hb2).sl hq1 hq2) (by omega) (HR.out x hxm))
      have HN : Hid (((rows.take (j + 1)).map digsOf).map bs = ((rows.take j).map digsOf).map bs ++ [bs (digsOf x)]) := Lib.hid (by rw [List.take_add_one, hx.out]; simp)
      have h3 := List.length_take_le j rows
      have hdl : (bs (digsOf x)).size ≤ 9223372036854775807 := by rw [bs_size, digsOf_len]; omega
      clear hc hx hi hxm
      go_wp2_with fail
      refine HD.out.mono ?_
      rintro e w5 ⟨rfl, z5⟩
      have hacc5 := hacc.below z5 (Nat.le_refl _)
      have hl5 := hlc.trans (turn_below z5 (by omega))
      have s3 := z5.size
      have hb3 := on hb2 z5
      obtain ⟨v', wN, hrun, haccN, htN, hsN, _⟩ := run_acc Try.underlying49 infoStr rfl (by decide) (by decide) rfl (lo := w.heap.size) (W0 := w1) 49 _ _ [.string (bs (digsOf x))] (bs (digsOf x)) hacc5 (own_str (lo := w5.heap.size) (hi := w5.heap.size) hdl) (by intro z hz; simp at hz; subst hz; rfl) (by omega) (by omega) (Nat.le_refl _) (Nat.le_refl _) hl5 rfl (.inl rfl) (by omega) (by simp; omega) rfl
      obtain ⟨va2, vn2, vc2, rfl⟩ := haccN.form3
      have HC9 := Lib.hid haccN
      have HT9 := Lib.hid htN
      clear hacc hlc haccN htN hacc5 hl5
      go_wp2_with ((at_builtin; refine wpList_app_run hrun rfl rfl rfl rfl rfl ?_))
      go_roundw
      case rel => exact ⟨j + 1, by omega, by go_num, by rw [HN.out]; exact HC9.out, HT9.out⟩
      case measure => simp [intOf]; omega
    · rw [show rows.take j = rows from List.take_of_length_le (by omega)] at hacc
      have HJ := Lib.hid (joined_any hacc (by rw [List.length_map, hld]; omega))
      clear hacc
      go_wp2_with fail
      refine HJ.out.mono ?_
      rintro e w5 ⟨rfl, z5⟩
      have s4 := z5.size
      have hb4 := on hb2 z5
      go_wp2_with fail
      go_ret
      exact ⟨by rfl, hb4⟩

/-- The text of an answer. -/
def fmtAn (x : DAn) : List UInt8 := if validAn x then namesOf x.1 ++ [58] ++ spaced (x.2.map digsOf) else []
theorem validAn_dig {x : DAn} (h : validAn x = true) : ∀ r ∈ x.2, ∀ v ∈ r, 0 ≤ v ∧ v ≤ 9 := by
  intro r hr v hv
  simp only [validAn, Bool.and_eq_true] at h
  have h2 := List.all_eq_true.1 h.1.2 r hr
  rw [rowB, Bool.and_eq_true] at h2
  have h3 := List.all_eq_true.1 h2.1 v hv
  simpa [betw] using h3
theorem names_impl' (v : Value) (vs : List Int) (w : World) (h : rI.rep w [v] vs) (hn : vs.length ≤ 1048576) :
    Calls Try.prog 20 #[v] w fun e w' => e = .returned (.string (bs (namesOf vs))) ∧ Below w.heap.size w w' :=
  (names_impl v vs w h hn).mono fun e w' ⟨h1, h2⟩ => ⟨h1, by subst h2; exact Below.refl _ _⟩

set_option maxHeartbeats 1000000 in
theorem fmtAn_impl (cs : List Value) (x : DAn) (w : World) (h : rAn.rep w cs x) (hb : bulk_An x ≤ 1048576) :
    Calls Try.prog 13 #[.agg cs.toArray] w fun e w' => e = .returned (.string (bs (fmtAn x))) ∧ Below w.heap.size w w' := by
  have HV := Lib.hid (fun W (hW : Below w.heap.size w W) => validAn_impl cs x W (rAn.mono h hW))
  obtain ⟨ub, un, uc, tb, tn, tc, rfl, g0, g1⟩ := rAn_open h
  obtain ⟨ok, hok⟩ : ∃ ok, validAn x = ok := ⟨_, rfl⟩
  rw [hok] at HV
  have HF : Hid (fmtAn x = if ok then namesOf x.1 ++ [58] ++ spaced (x.2.map digsOf) else []) := Lib.hid (by rw [fmtAn, hok])
  have HDG : Hid (ok = true → ∀ r ∈ x.2, ∀ v ∈ r, 0 ≤ v ∧ v ≤ 9) := Lib.hid (fun h9 => validAn_dig (hok.trans h9))
  unfold bulk_An at hb
  have hb1 : x.1.length ≤ 1048576 := by have h9 : bulk_I x.1 = x.1.length := rfl; omega
  have HN := Lib.hid (fun W (hW : Below w.heap.size w W) => names_impl' (.slice ub un uc) x.1 W (rI.mono g0 hW) hb1)
  have HR := Lib.hid (fun W (hW : Below w.heap.size w W) (hr : ∀ r ∈ x.2, ∀ v ∈ r, 0 ≤ v ∧ v ≤ 9) => rowsText_any (.slice tb tn tc) x.2 W (rII.mono g1 hW) hr (by omega))
  have hnl := namesOf_len x.1
  have hsl := spaced_len (x.2.map digsOf)
  rw [List.length_map, lens_digs] at hsl
  unfold bulk_II at hb
  obtain ⟨vs, rows⟩ := x
  simp only at HN HR HDG hnl hsl hb hb1
  clear h g0 g1 hok
  have hb0 : Below w.heap.size w w := Below.refl _ _
  go_enter Try.func13, Try.ntmps13
  obtain ⟨w1, hw1⟩ : ∃ W, W = w.alloc (.cells #[.slice ub un uc, .slice tb tn tc] 39) := ⟨_, rfl⟩
  have z1 : Below w.heap.size w w1 := by rw [hw1]; exact (Below.refl _ _).alloc (Nat.le_refl _) _
  have s1 : w1.heap.size = w.heap.size + 1 := by rw [hw1]; simp
  have hb1 := on hb0 z1
  have a_0 : w1.cell? ⟨w.heap.size, 0, none⟩ = some (.slice ub un uc) := by rw [hw1]; exact box_cell (Below.refl _ _) rfl
  have a_1 : w1.cell? ⟨w.heap.size, 1, none⟩ = some (.slice tb tn tc) := by rw [hw1]; exact box_cell (Below.refl _ _) rfl
  have raw1_a_0 := a_0
  have raw1_a_1 := a_1
  rw [hw1] at raw1_a_0 raw1_a_1
  go_wp2_with fail
  rw [← hw1]
  clear hw1
  clear raw1_a_0 raw1_a_1
  refine (HV.out _ hb1).mono ?_
  rintro e w5 ⟨rfl, z5⟩
  have s2 := z5.size
  have hb2 := on hb1 z5
  replace a_0 := (z5.cell (p := ⟨w.heap.size, 0, none⟩) (by simp only []; omega)).trans a_0
  replace a_1 := (z5.cell (p := ⟨w.heap.size, 1, none⟩) (by simp only []; omega)).trans a_1
  cases ok with
  | false =>
    have HE : Hid (fmtAn (vs, rows) = []) := Lib.hid (by rw [HF.out]; rfl)
    go_wp2_with fail
    go_ret
    exact ⟨by rw [HE.out]; rfl, hb2⟩
  | true =>
    have HE : Hid (fmtAn (vs, rows) = namesOf vs ++ [58] ++ spaced (rows.map digsOf)) := Lib.hid (by rw [HF.out, if_pos rfl])
    have HRR := Lib.hid (fun W hW => HR.out W hW (HDG.out rfl))
    have hz1 : ¬ 9223372036854775807 < (bs (namesOf vs)).size + (ByteArray.mk #[58]).size := by rw [bs_size]; simp [ByteArray.size]; omega
    have hz2 : ¬ 9223372036854775807 < (bs (namesOf vs) ++ ByteArray.mk #[58]).size + (bs (spaced (rows.map digsOf))).size := by rw [bs_size, show bs (namesOf vs) ++ ByteArray.mk #[58] = bs (namesOf vs ++ [58]) from bs_app _ [58], bs_size, List.length_append]; simp; omega
    go_wp2_with fail
    refine wp_region_noPanic ?_
    refine wp_region_held_drew (S := (fun W => W.cell? ⟨w.heap.size, 0, none⟩ = some (.slice ub un uc) ∧ W.cell? ⟨w.heap.size, 1, none⟩ = some (.slice tb tn tc))) (by kernel_rfl) ?hS3 (fun hHeld => ?_)
    case hS3 => exact ⟨a_0, a_1⟩
    refine wpAnyH_take (i := 0) (v := ?v0_4) rfl (by kernel_rfl) (by kernel_rfl) (by kernel_rfl) (fun _ _ _ h => h) (Or.inl ⟨by rfl, ?hy0_4⟩) (by assumption) ?rest0_4
    case hy0_4 => intro w hSw; (try dsimp only at hSw); go_simp; (try with_reducible rfl)
    try simp only [Act.put, List.getElem_toArray, List.getElem_cons_succ, List.getElem_cons_zero, List.setIfInBounds_toArray, List.set_cons_zero, List.set_cons_succ]
    refine wpAnyH_take (i := 1) (v := ?v1_5) rfl (by kernel_rfl) (by kernel_rfl) (by kernel_rfl) (fun _ _ _ h => h) (Or.inl ⟨by rfl, ?hy1_5⟩) (by assumption) ?rest1_5
    case hy1_5 => intro w hSw; (try dsimp only at hSw); go_simp; (try with_reducible rfl)
    try simp only [Act.put, List.getElem_toArray, List.getElem_cons_succ, List.getElem_cons_zero, List.setIfInBounds_toArray, List.set_cons_zero, List.set_cons_succ]
    refine wpAnyH_take (i := 4) (v := ?v4_6) rfl (by kernel_rfl) (by kernel_rfl) (by kernel_rfl) (fun _ _ _ h => h) (Or.inl ⟨by rfl, ?hy4_6⟩) (by assumption) ?rest4_6
    case hy4_6 => intro w hSw; (try dsimp only at hSw); go_simp; (try with_reducible rfl)
    try simp only [Act.put, List.getElem_toArray, List.getElem_cons_succ, List.getElem_cons_zero, List.setIfInBounds_toArray, List.set_cons_zero, List.set_cons_succ]
    refine wpAnyH_take (i := 5) (v := ?v5_7) rfl (by kernel_rfl) (by kernel_rfl) (by kernel_rfl) (fun _ _ _ h => h) (Or.inl ⟨by rfl, ?hy5_7⟩) (by assumption) ?rest5_7
    case hy5_7 => intro w hSw; (try dsimp only at hSw); go_simp; (try with_reducible rfl)
    try simp only [Act.put, List.getElem_toArray, List.getElem_cons_succ, List.getElem_cons_zero, List.setIfInBounds_toArray, List.set_cons_zero, List.set_cons_succ]
    refine wpAnyH_ready (rs := [2]) (by kernel_rfl) (by simp) ?_
    refine AllReadyH.cons rfl (fun K hK => ?_) AllReadyH.nil
    go_simp; (refine (HN.out _ (hb2).drew).mono ?_); rintro e wA ⟨rfl, zA⟩; replace zA : Below w5.heap.size w5 wA := on (Below.refl _ _).drew zA; have sA := zA.size; have hbA := on hb2 zA; have hSA := (⟨(zA.cell (p := ⟨w.heap.size, 0, none⟩) (by simp only []; omega)).trans a_0, (zA.cell (p := ⟨w.heap.size, 1, none⟩) (by simp only []; omega)).trans a_1⟩ : (fun W => W.cell? ⟨w.heap.size, 0, none⟩ = some (.slice ub un uc) ∧ W.cell? ⟨w.heap.size, 1, none⟩ = some (.slice tb tn tc)) wA)
    refine hK.out _ _ ?_ (fun hHeld => ?_)
    · exact hSA
    clear hK K
    try simp only [Act.put, List.setIfInBounds_toArray, List.set_cons_zero, List.set_cons_succ]
    refine wpAnyH_take (i := 3) (v := ?v3x) rfl (by kernel_rfl) (by kernel_rfl) (by kernel_rfl) (fun _ _ _ h => h) (Or.inl ⟨by rfl, ?hy3x⟩) (by assumption) ?rest3x
    case hy3x => intro w hSw; (try dsimp only at hSw); go_simp; (split <;> first | rfl | (exfalso; omega))
    try simp only [Act.put, List.getElem_toArray, List.getElem_cons_succ, List.getElem_cons_zero, List.setIfInBounds_toArray, List.set_cons_zero, List.set_cons_succ]
    refine wpAnyH_ready (rs := [6]) (by kernel_rfl) (by simp) ?_
    refine AllReadyH.cons rfl (fun K hK => ?_) AllReadyH.nil
    go_simp; (refine (HRR.out _ hbA).mono ?_); rintro e wB ⟨rfl, zB⟩; have sB := zB.size; have hbB := on hbA zB; have hSB := (⟨(zB.cell (p := ⟨w.heap.size, 0, none⟩) (by simp only []; omega)).trans hSA.1, (zB.cell (p := ⟨w.heap.size, 1, none⟩) (by simp only []; omega)).trans hSA.2⟩ : (fun W => W.cell? ⟨w.heap.size, 0, none⟩ = some (.slice ub un uc) ∧ W.cell? ⟨w.heap.size, 1, none⟩ = some (.slice tb tn tc)) wB)
    refine hK.out _ _ ?_ (fun hHeld => ?_)
    · exact hSB
    clear hK K
    try simp only [Act.put, List.setIfInBounds_toArray, List.set_cons_zero, List.set_cons_succ]
    refine wpAnyH_take (i := 7) (v := ?v7x) rfl (by kernel_rfl) (by kernel_rfl) (by kernel_rfl) (fun _ _ _ h => h) (Or.inl ⟨by rfl, ?hy7x⟩) (by assumption) ?rest7x
    case hy7x => intro w hSw; (try dsimp only at hSw); go_simp; (split <;> first | rfl | (exfalso; omega))
    try simp only [Act.put, List.getElem_toArray, List.getElem_cons_succ, List.getElem_cons_zero, List.setIfInBounds_toArray, List.set_cons_zero, List.set_cons_succ]
    refine wpAnyH_take (i := 8) (v := ?v8_8) rfl (by kernel_rfl) (by kernel_rfl) (by kernel_rfl) (fun _ _ _ h => h) (Or.inl ⟨by rfl, ?hy8_8⟩) (by assumption) ?rest8_8
    case hy8_8 => intro w hSw; (try dsimp only at hSw); go_simp; (try with_reducible rfl)
    try simp only [Act.put, List.getElem_toArray, List.getElem_cons_succ, List.getElem_cons_zero, List.setIfInBounds_toArray, List.set_cons_zero, List.set_cons_succ]
    refine wpAnyH_done (by kernel_rfl) ?_ _
    refine NoPanic.normal ?_
    go_wp2_with fail
    go_ret
    refine ⟨?_, hbB⟩
    rw [HE.out, ← bs_app, ← bs_app]
    rfl

set_option maxHeartbeats 1000000 in
theorem fmtAn_spec (cs : List Value) (x : DAn) (w : World) (h : rAn.rep w cs x) (hb : bulk_An x ≤ 1048576) :
    Calls Try.prog 11 #[.agg cs.toArray] w fun e w' => e = .returned (.string (bs (fmtAn x))) ∧ Below w.heap.size w w' := by
  have HV := Lib.hid (fun W (hW : Below w.heap.size w W) => validAn_spec cs x W (rAn.mono h hW))
  obtain ⟨ub, un, uc, tb, tn, tc, rfl, g0, g1⟩ := rAn_open h
  obtain ⟨ok, hok⟩ : ∃ ok, validAn x = ok := ⟨_, rfl⟩
  rw [hok] at HV
  have HF : Hid (fmtAn x = if ok then namesOf x.1 ++ [58] ++ spaced (x.2.map digsOf) else []) := Lib.hid (by rw [fmtAn, hok])
  have HDG : Hid (ok = true → ∀ r ∈ x.2, ∀ v ∈ r, 0 ≤ v ∧ v ≤ 9) := Lib.hid (fun h9 => validAn_dig (hok.trans h9))
  unfold bulk_An at hb
  have hb1 : x.1.length ≤ 1048576 := by have h9 : bulk_I x.1 = x.1.length := rfl; omega
  have HN := Lib.hid (fun W (hW : Below w.heap.size w W) => names_spec (.slice ub un uc) x.1 W (rI.mono g0 hW) hb1)
  have t0 := rS_sl g1
  have hl := t0.len
  have hnl := namesOf_len x.1
  have hll : ∀ j, (spaced ((x.2.map digsOf).take j)).length ≤ x.2.length + sumBy bulk_I x.2 := fun j => by
    have h9 := lens_take (x.2.map digsOf) j
    rw [List.length_map, lens_digs] at h9
    exact h9
  have hsum : ∀ r ∈ x.2, bulk_I r ≤ sumBy bulk_I x.2 := fun r hr9 => by
    obtain ⟨i, hi, rfl⟩ := List.mem_iff_getElem.1 hr9
    exact sumBy_mem bulk_I (List.getElem?_eq_getElem hi)
  have HSM := Lib.hid hsum
  have HLL := Lib.hid hll
  unfold bulk_II at hb
  obtain ⟨vs, rows⟩ := x
  simp only at HN HDG hnl hb hb1 t0 hl HLL HSM
  clear h g0 g1 hok hsum hll
  have hb0 : Below w.heap.size w w := Below.refl _ _
  go_enter Try.func11, Try.ntmps11
  obtain ⟨w1, hw1⟩ : ∃ W, W = w.alloc (.cells #[.slice ub un uc, .slice tb tn tc] 39) := ⟨_, rfl⟩
  have z1 : Below w.heap.size w w1 := by rw [hw1]; exact (Below.refl _ _).alloc (Nat.le_refl _) _
  have s1 : w1.heap.size = w.heap.size + 1 := by rw [hw1]; simp
  have hb1 := on hb0 z1
  have a_0 : w1.cell? ⟨w.heap.size, 0, none⟩ = some (.slice ub un uc) := by rw [hw1]; exact box_cell (Below.refl _ _) rfl
  have a_1 : w1.cell? ⟨w.heap.size, 1, none⟩ = some (.slice tb tn tc) := by rw [hw1]; exact box_cell (Below.refl _ _) rfl
  have raw1_a_0 := a_0
  have raw1_a_1 := a_1
  rw [hw1] at raw1_a_0 raw1_a_1
  go_wp2_with fail
  rw [← hw1]
  clear hw1
  clear raw1_a_0 raw1_a_1
  refine (HV.out _ hb1).mono ?_
  rintro e w5 ⟨rfl, z5⟩
  have s2 := z5.size
  have hb2 := on hb1 z5
  replace a_0 := (z5.cell (p := ⟨w.heap.size, 0, none⟩) (by simp only []; omega)).trans a_0
  replace a_1 := (z5.cell (p := ⟨w.heap.size, 1, none⟩) (by simp only []; omega)).trans a_1
  cases ok with
  | false =>
    have HE : Hid (fmtAn (vs, rows) = []) := Lib.hid (by rw [HF.out]; rfl)
    go_wp2_with fail
    go_ret
    exact ⟨by rw [HE.out]; rfl, hb2⟩
  | true =>
    have HE : Hid (fmtAn (vs, rows) = namesOf vs ++ [58] ++ spaced (rows.map digsOf)) := Lib.hid (by rw [HF.out, if_pos rfl])
    have HDT := Lib.hid (HDG.out rfl)
    have hz1 : ¬ 9223372036854775807 < (bs (namesOf vs)).size + (ByteArray.mk #[58]).size := by rw [bs_size]; simp [ByteArray.size]; omega
    have hst : bs (namesOf vs) ++ ByteArray.mk #[58] = bs ((namesOf vs ++ [58]) ++ spaced ((rows.map digsOf).take 0)) := by rw [List.take_zero, show spaced [] = [] from rfl, List.append_nil]; exact bs_app _ [58]
    obtain ⟨P, hP⟩ : ∃ P, namesOf vs ++ [58] = P := ⟨_, rfl⟩
    have hPl : P.length ≤ vs.length + 1 := by rw [← hP, List.length_append]; simp; omega
    rw [hP] at HE hst
    go_wp2_with fail
    refine (HN.out _ hb2).mono ?_
    rintro e w' ⟨rfl, rfl⟩
    clear hP
    go_wp2_with fail
    go_loopw [3, 4] (fun s k wr => ∃ j : Nat, j ≤ tn ∧ k = .int .i64 j ∧ s = .string (bs (P ++ spaced ((rows.map digsOf).take j))) ∧ Below w5.heap.size w5 wr) (fun _ k _ => tn - (intOf k).toNat)
    case atStart => exact ⟨0, Nat.zero_le _, rfl, by rw [List.take_zero], Below.refl _ _⟩
    case round =>
      obtain ⟨j, hj, rfl, rfl, hdr⟩ := hrel
      have hlc := hdr
      clear hst hz1
      have s3 := hdr.size
      have hb3 := on hb2 hdr
      replace a_0 := (hdr.cell (p := ⟨w.heap.size, 0, none⟩) (by simp only []; omega)).trans a_0
      replace a_1 := (hdr.cell (p := ⟨w.heap.size, 1, none⟩) (by simp only []; omega)).trans a_1
      have hjl := HLL.out j
      by_cases hlt : j < tn
      · obtain ⟨b0, o0, r1, m1, q1, y, rfl, hc, hx, hi, hq1, hq2⟩ := t0.row hlt
        have hclt : b0 < w.heap.size := cell_lt hc
        have c0 : wr.cell? ⟨b0, o0 + j, none⟩ = some (.slice r1 m1 q1) := (hb3.cell (p := ⟨b0, o0 + j, none⟩) hclt).trans hc
        have hxm := List.mem_of_getElem? hx.out
        have hxb : y.length ≤ sumBy bulk_I rows := HSM.out y hxm
        have HD := Lib.hid (l4Digits_any (.slice r1 m1 q1) y wr (rS_mk (hi.below hb3).sl hq1 hq2) (by omega) (HDT.out y hxm))
        have HS := Lib.hid (spaced_snoc (ws := rows.map digsOf) (j := j) (y := digsOf y) (by rw [List.getElem?_map, hx.out]; rfl))
        have hdl := digsOf_len y
        clear hc hx hi hxm
        by_cases hj0 : j = 0
        · subst hj0
          have c9 : wr.cell? ⟨b0, o0, none⟩ = some (.slice r1 m1 q1) := by simpa using c0
          clear c0
          have hz2 : ¬ 9223372036854775807 < (bs (P ++ spaced [])).size + (bs (digsOf y)).size := by rw [bs_size, bs_size, List.length_append, show spaced [] = [] from rfl, List.length_nil]; omega
          have HN2 : Hid (bs (P ++ spaced ((rows.map digsOf).take (0 + 1))) = bs (P ++ spaced ((rows.map digsOf).take 0)) ++ bs (digsOf y)) := Lib.hid (by rw [HS.out, if_pos rfl, bs_app, List.take_zero, show spaced [] = [] from rfl, List.append_nil])
          go_wp2_with fail
          refine HD.out.mono ?_
          rintro e w8 ⟨rfl, z8⟩
          have s4 := z8.size
          have hb4 := on hb3 z8
          replace a_0 := (z8.cell (p := ⟨w.heap.size, 0, none⟩) (by simp only []; omega)).trans a_0
          replace a_1 := (z8.cell (p := ⟨w.heap.size, 1, none⟩) (by simp only []; omega)).trans a_1
          replace hlc := on hlc z8
          replace c9 := (z8.cell (p := ⟨b0, o0, none⟩) (by simp only []; omega)).trans c9
          go_wp2_with fail
          go_roundw
          case rel => exact ⟨0 + 1, by omega, by go_num, by rw [HN2.out, List.take_zero], hlc⟩
          case measure => simp [intOf]; omega
        · have hj1 : (0 : Int) < (j : Int) := by omega
          have hz2 : ¬ 9223372036854775807 < (bs (P ++ spaced ((rows.map digsOf).take j))).size + (ByteArray.mk #[32]).size := by rw [bs_size, List.length_append]; simp [ByteArray.size]; omega
          have hz3 : ¬ 9223372036854775807 < (bs (P ++ spaced ((rows.map digsOf).take j)) ++ ByteArray.mk #[32]).size + (bs (digsOf y)).size := by rw [show bs (P ++ spaced ((rows.map digsOf).take j)) ++ ByteArray.mk #[32] = bs ((P ++ spaced ((rows.map digsOf).take j)) ++ [32]) from bs_app _ [32], bs_size, bs_size, List.length_append, List.length_append]; simp; omega
          have HN2 : Hid (bs (P ++ spaced ((rows.map digsOf).take (j + 1))) = bs (P ++ spaced ((rows.map digsOf).take j)) ++ ByteArray.mk #[32] ++ bs (digsOf y)) := Lib.hid (by rw [HS.out, if_neg hj0, show bs (P ++ spaced ((rows.map digsOf).take j)) ++ ByteArray.mk #[32] = bs ((P ++ spaced ((rows.map digsOf).take j)) ++ [32]) from bs_app _ [32], bs_app]; simp)
          go_wp2_with fail
          refine HD.out.mono ?_
          rintro e w8 ⟨rfl, z8⟩
          have s5 := z8.size
          have hb5 := on hb3 z8
          replace a_0 := (z8.cell (p := ⟨w.heap.size, 0, none⟩) (by simp only []; omega)).trans a_0
          replace a_1 := (z8.cell (p := ⟨w.heap.size, 1, none⟩) (by simp only []; omega)).trans a_1
          replace hlc := on hlc z8
          replace c0 := (z8.cell (p := ⟨b0, o0 + j, none⟩) (by simp only []; omega)).trans c0
          go_wp2_with fail
          go_roundw
          case rel => exact ⟨j + 1, by omega, by go_num, by rw [HN2.out], hlc⟩
          case measure => simp [intOf]; omega
      · have HF2 : Hid (fmtAn (vs, rows) = P ++ spaced ((rows.map digsOf).take j)) := Lib.hid (by rw [HE.out, List.take_of_length_le (by rw [List.length_map]; omega)])
        go_wp2_with fail
        go_ret
        exact ⟨by rw [HF2.out]; rfl, hb3⟩

end Go.Proofs.Ytigcagplbihenaa
