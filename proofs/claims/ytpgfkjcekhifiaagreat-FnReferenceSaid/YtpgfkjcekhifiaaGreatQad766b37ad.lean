/- Texts joined for one claim: ValidQI, ValidQS, Fits, MaskC, NearP, MaskV, MaskI, NearC, Conn, Conn2. -/
import Derived.Test.YtpgfkjcekhifiaaGreatQ94813783a4
import Derived.Test.YtpgfkjcekhifiaaGreatQ52736f1836
import Derived.Test.YtpgfkjcekhifiaaGreatQ22cca73baf
import Derived.Deep.RegionHeld3

namespace Go.Proofs.YtpgfkjcekhifiaaGreat

open Go.RowKit

set_option linter.unusedVariables false

set_option linter.unusedSimpArgs false

set_option synthInstance.maxSize 2000

set_option synthInstance.maxHeartbeats 400000

theorem infoBool : (Tryz.prog.info? 4).map (fun i => (i.zero, i.size, i.bytes)) = some (some (.bool false), 1, 1) := by kernel_rfl

set_option maxHeartbeats 2000000 in
theorem validQ_impl (cs : List Value) (x : DQ) (w : World) (h : rQ.rep w cs x) :
    Calls Tryz.prog 56 #[.agg cs.toArray] w fun e w' => e = .returned (.bool (validQ x)) ∧ Below w.heap.size w w' := by
  obtain ⟨ub, un, uc, rfl, hi, g1⟩ := rQ_open h
  clear h
  obtain ⟨i, xs⟩ := x
  simp only at hi g1
  obtain ⟨hi1, hi2⟩ := hi
  have t0 := rS_sl g1
  have hl := t0.len
  have hn := t0.small
  clear t0
  have hb0 : Below w.heap.size w w := Below.refl _ _
  by_cases h1 : betw i 1 4 = true
  case neg =>
    replace h1 : betw i 1 4 = false := by simpa using h1
    have HE := Lib.hid (validQ_no1 (q := (i, xs)) h1)
    go_enter Tryz.func56, Tryz.ntmps56
    obtain ⟨w1, hw1⟩ : ∃ W, W = w.alloc (.cells #[.int .i64 i, .slice ub un uc] 29) := ⟨_, rfl⟩
    have z1 : Below w.heap.size w w1 := by rw [hw1]; exact (Below.refl _ _).alloc (Nat.le_refl _) _
    have s1 : w1.heap.size = w.heap.size + 1 := by rw [hw1]; simp
    have hb1 := on hb0 z1
    have b_0 : w1.cell? ⟨w.heap.size, 0, none⟩ = some (.int .i64 i) := by rw [hw1]; exact box_cell (Below.refl _ _) rfl
    have b_1 : w1.cell? ⟨w.heap.size, 1, none⟩ = some (.slice ub un uc) := by rw [hw1]; exact box_cell (Below.refl _ _) rfl
    have raw1_b_0 := b_0
    have raw1_b_1 := b_1
    rw [hw1] at raw1_b_0 raw1_b_1
    go_wp2_with fail
    rw [← hw1]
    clear hw1
    clear raw1_b_0 raw1_b_1
    refine (within_any _ _ _ _).mono ?_
    rintro e w' ⟨rfl, rfl⟩
    clear hl
    go_wp2_with fail
    go_ret
    exact ⟨ret_bool HE.out.symm, hb1⟩
  by_cases h2 : betw un 1 4 = true
  case neg =>
    replace h2 : betw un 1 4 = false := by simpa using h2
    have HE := Lib.hid (validQ_no2 (q := (i, xs)) (by simp only []; rw [hl]; exact h2))
    go_enter Tryz.func56, Tryz.ntmps56
    obtain ⟨w2, hw2⟩ : ∃ W, W = w.alloc (.cells #[.int .i64 i, .slice ub un uc] 29) := ⟨_, rfl⟩
    have z2 : Below w.heap.size w w2 := by rw [hw2]; exact (Below.refl _ _).alloc (Nat.le_refl _) _
    have s2 : w2.heap.size = w.heap.size + 1 := by rw [hw2]; simp
    have hb2 := on hb0 z2
    have b_0 : w2.cell? ⟨w.heap.size, 0, none⟩ = some (.int .i64 i) := by rw [hw2]; exact box_cell (Below.refl _ _) rfl
    have b_1 : w2.cell? ⟨w.heap.size, 1, none⟩ = some (.slice ub un uc) := by rw [hw2]; exact box_cell (Below.refl _ _) rfl
    have raw2_b_0 := b_0
    have raw2_b_1 := b_1
    rw [hw2] at raw2_b_0 raw2_b_1
    go_wp2_with fail
    rw [← hw2]
    clear hw2
    clear raw2_b_0 raw2_b_1
    refine (within_any _ _ _ _).mono ?_
    rintro e w' ⟨rfl, rfl⟩
    go_wp2_with fail
    refine (within_any _ _ _ _).mono ?_
    rintro e w' ⟨rfl, rfl⟩
    clear hl
    go_wp2_with fail
    go_ret
    exact ⟨ret_bool HE.out.symm, hb2⟩
  have h3 := h1
  simp only [betw, Bool.and_eq_true, decide_eq_true_eq] at h3
  obtain ⟨n, rfl⟩ := Int.eq_ofNat_of_zero_le (show 0 ≤ i by omega)
  have hn1 : 1 ≤ n ∧ n ≤ 4 := by omega
  obtain ⟨hn1, hn4⟩ := hn1
  clear h3 hi1 hi2
  have HV := Lib.hid (validQ_go (xs := xs) h1 (by rw [hl]; exact h2))
  have H2 := Lib.hid h2
  go_enter Tryz.func56, Tryz.ntmps56
  obtain ⟨w3, hw3⟩ : ∃ W, W = w.alloc (.cells #[.int .i64 n, .slice ub un uc] 29) := ⟨_, rfl⟩
  have z3 : Below w.heap.size w w3 := by rw [hw3]; exact (Below.refl _ _).alloc (Nat.le_refl _) _
  have s3 : w3.heap.size = w.heap.size + 1 := by rw [hw3]; simp
  have hb3 := on hb0 z3
  have b_0 : w3.cell? ⟨w.heap.size, 0, none⟩ = some (.int .i64 n) := by rw [hw3]; exact box_cell (Below.refl _ _) rfl
  have b_1 : w3.cell? ⟨w.heap.size, 1, none⟩ = some (.slice ub un uc) := by rw [hw3]; exact box_cell (Below.refl _ _) rfl
  have raw3_b_0 := b_0
  have raw3_b_1 := b_1
  rw [hw3] at raw3_b_0 raw3_b_1
  go_wp2_with fail
  rw [← hw3]
  clear hw3
  clear raw3_b_0 raw3_b_1
  refine (within_any _ _ _ _).mono ?_
  rintro e w' ⟨rfl, rfl⟩
  go_wp2_with fail
  refine (within_any _ _ _ _).mono ?_
  rintro e w' ⟨rfl, rfl⟩
  go_wp2_with (at_make; refine wpList_mkS Tryz.underlying101 infoBool rfl (by decide) (by decide) O.bool ([] : List Bool) _ _ n (by omega) rfl rfl rfl rfl ?_; intro w2 hp hz hz2; have s4 := hz.size; have hb4 := on hb3 hz; replace b_0 := (hz.cell (p := ⟨w.heap.size, 0, none⟩) (by simp only []; omega)).trans b_0; replace b_1 := (hz.cell (p := ⟨w.heap.size, 1, none⟩) (by simp only []; omega)).trans b_1)
  have B0 : Bools w2 (w.heap.size + 1) n 0 := by have h9 := Bools.of_part hp; rwa [show w3.heap.size = (w.heap.size + 1) by omega] at h9
  clear hp h1 h2
  go_loopw [25] (fun k wr => ∃ j m : Nat, j ≤ un ∧ m < 2 ^ n ∧ k = .int .i64 j ∧ Hid (validQ ((n : Int), xs) = validFrom n m (xs.drop j)) ∧ Bools wr (w.heap.size + 1) n m ∧ Turn (w.heap.size + 1) (w.heap.size + 2) w2 wr) (fun k _ => un - (intOf k).toNat)
  case atStart => exact ⟨0, 0, Nat.zero_le _, Nat.two_pow_pos _, rfl, HV.out, B0, turn_refl _ _ _⟩
  case round =>
    obtain ⟨j, m, hj, hm, rfl, hE, hB, hdr⟩ := hrel
    obtain ⟨wo, rfl⟩ : ∃ W, W = wr := ⟨_, rfl⟩
    have hlc := hdr
    clear B0
    have s5 := hdr.size
    have hb5 := hb4.trans ((hdr.below (by omega)).mono (by omega))
    replace b_0 := txc hdr b_0
    replace b_1 := txc hdr b_1
    have t0 := rS_sl g1
    have hm16 := pow_le16 hn4
    by_cases hlt : j < un
    · obtain ⟨b1, o1, cs, x, rfl, hx, hr, hc⟩ := t0.at hlt
      obtain ⟨s, vs⟩ := x
      obtain ⟨vb, vn, vc, rfl, hs, g2⟩ := rA_open hr
      simp only at hs g2
      have i0 := rI_ints g2
      have hvl := i0.len
      have hvs := i0.small
      obtain ⟨hvc, hvc2⟩ := rS_cap g2
      have e_lt : b1 < w.heap.size := cell_lt (hc 0 _ rfl)
      have e_0 : wo.cell? ⟨b1, o1 + j * 2, none⟩ = some (.string s) := (hb5.cell (p := ⟨b1, o1 + j * 2, none⟩) e_lt).trans (by have h9 := hc 0 _ rfl; rw [← Nat.add_assoc] at h9; exact h9)
      have e_1 : wo.cell? ⟨b1, o1 + j * 2 + 1, none⟩ = some (.slice vb vn vc) := (hb5.cell (p := ⟨b1, o1 + j * 2 + 1, none⟩) e_lt).trans (by have h9 := hc 1 _ rfl; rw [← Nat.add_assoc] at h9; exact h9)
      have HA := Lib.hid (hE.out.trans (validFrom_at hx.out))
      clear hc t0 hr hl hx hE i0 HV
      have hg := hB.lt
      obtain ⟨w6, hw6⟩ : ∃ W, W = wo.alloc (.cells #[.string s, .slice vb vn vc] 48) := ⟨_, rfl⟩
      have z6 : Below wo.heap.size wo w6 := by rw [hw6]; exact (Below.refl _ _).alloc (Nat.le_refl _) _
      have s6 : w6.heap.size = wo.heap.size + 1 := by rw [hw6]; simp
      have hb6 := on hb5 z6
      have old6_b_0 := b_0
      have old6_b_1 := b_1
      have old6_e_0 := e_0
      have old6_e_1 := e_1
      replace b_0 := bxc z6 b_0
      replace b_1 := bxc z6 b_1
      replace hlc := hlc.trans (turn_below z6 (Nat.le_refl _))
      replace e_0 := bxc z6 e_0
      replace e_1 := bxc z6 e_1
      replace hB := hB.below z6 (by omega)
      have p_0 : w6.cell? ⟨wo.heap.size, 0, none⟩ = some (.string s) := by rw [hw6]; exact box_cell (Below.refl _ _) rfl
      have p_1 : w6.cell? ⟨wo.heap.size, 1, none⟩ = some (.slice vb vn vc) := by rw [hw6]; exact box_cell (Below.refl _ _) rfl
      have raw6_b_0 := b_0
      have raw6_b_1 := b_1
      have raw6_e_0 := e_0
      have raw6_e_1 := e_1
      have raw6_p_0 := p_0
      have raw6_p_1 := p_1
      rw [hw6] at raw6_b_0 raw6_b_1 raw6_e_0 raw6_e_1 raw6_p_0 raw6_p_1
      by_cases h1 : nameB s = true
      case neg =>
        replace h1 : nameB s = false := by simpa using h1
        have HE := Lib.hid (show validQ ((n : Int), xs) = false by rw [HA.out]; simp [h1])
        go_wp2_with fail
        rw [← hw6]
        clear hw6
        clear old6_b_0 old6_b_1 old6_e_0 old6_e_1 raw6_b_0 raw6_b_1 raw6_e_0 raw6_e_1 raw6_p_0 raw6_p_1
        refine (nameOk_any _ _ hs).mono ?_
        rintro e w' ⟨rfl, rfl⟩
        go_wp2_with fail
        go_ret
        exact ⟨ret_bool HE.out.symm, hb6⟩
      by_cases h2 : betw vn 1 3 = true
      case neg =>
        replace h2 : betw vn 1 3 = false := by simpa using h2
        have HE := Lib.hid (show validQ ((n : Int), xs) = false by rw [HA.out]; simp [hvl, h2])
        go_wp2_with fail
        rw [← hw6]
        clear hw6
        clear old6_b_0 old6_b_1 old6_e_0 old6_e_1 raw6_b_0 raw6_b_1 raw6_e_0 raw6_e_1 raw6_p_0 raw6_p_1
        refine (nameOk_any _ _ hs).mono ?_
        rintro e w' ⟨rfl, rfl⟩
        go_wp2_with fail
        refine (within_any _ _ _ _).mono ?_
        rintro e w' ⟨rfl, rfl⟩
        go_wp2_with fail
        go_ret
        exact ⟨ret_bool HE.out.symm, hb6⟩
      have HA2 := Lib.hid (show validQ ((n : Int), xs) = (varsFrom n (vs.take 0) (vs.drop 0) && validFrom n (vbits m (vs.drop 0)) (xs.drop (j + 1))) by rw [HA.out]; simp [h1, hvl, h2])
      clear HA
      go_wp2_with fail
      rw [← hw6]
      clear hw6
      clear old6_b_0 old6_b_1 old6_e_0 old6_e_1 raw6_b_0 raw6_b_1 raw6_e_0 raw6_e_1 raw6_p_0 raw6_p_1
      refine (nameOk_any _ _ hs).mono ?_
      rintro e w' ⟨rfl, rfl⟩
      go_wp2_with fail
      refine (within_any _ _ _ _).mono ?_
      rintro e w' ⟨rfl, rfl⟩
      have h3 := h2
      simp only [betw, Bool.and_eq_true, decide_eq_true_eq] at h3
      go_wp2_with fail
      clear h1 h2
      go_loopw [43] (fun k wr => ∃ i m : Nat, i ≤ vn ∧ m < 2 ^ n ∧ k = .int .i64 i ∧ Hid (validQ ((n : Int), xs) = (varsFrom n (vs.take i) (vs.drop i) && validFrom n (vbits m (vs.drop i)) (xs.drop (j + 1)))) ∧ Bools wr (w.heap.size + 1) n m ∧ Turn (w.heap.size + 1) (w.heap.size + 2) w6 wr) (fun k _ => vn - (intOf k).toNat)
      case atStart => exact ⟨0, m, Nat.zero_le _, hm, rfl, HA2.out, hB, turn_refl _ _ _⟩
      case round =>
        obtain ⟨i, m, hi, hm, rfl, hE, hB, hdr⟩ := hrel
        have hlo := hdr
        have s7 := hdr.size
        have hb7 := hb6.trans ((hdr.below (by omega)).mono (by omega))
        replace b_0 := txc hdr b_0
        replace b_1 := txc hdr b_1
        replace hlc := hlc.trans hdr
        replace e_0 := txc hdr e_0
        replace e_1 := txc hdr e_1
        replace p_0 := txc hdr p_0
        replace p_1 := txc hdr p_1
        have hm16 := pow_le16 hn4
        have i0 := rI_ints g2
        by_cases hlv : i < vn
        · obtain ⟨b2, o2, v, rfl, hc, hv, hv1, hv2⟩ := i0.get hlv
          have v0_lt : b2 < w.heap.size := cell_lt hc
          have v0 : wr.cell? ⟨b2, o2 + i, none⟩ = some (.int .i64 v) := (hb7.cell (p := ⟨b2, o2 + i, none⟩) v0_lt).trans hc
          clear hc
          by_cases h4 : betw v 0 ((n : Int) - 1) = true
          case neg =>
            replace h4 : betw v 0 ((n : Int) - 1) = false := by simpa using h4
            have HE := Lib.hid (show validQ ((n : Int), xs) = false by rw [hE.out, vars_no (by omega) hv.out (by simp [h4])]; rfl)
            clear i0 hvl hB
            go_wp2_with fail
            refine (within_any _ _ _ _).mono ?_
            rintro e w' ⟨rfl, rfl⟩
            go_wp2_with fail
            go_ret
            exact ⟨ret_bool HE.out.symm, hb7⟩
          have hcall := contains_any (some ⟨b2, o2, none⟩) i vc (vs.take i) v wr ((i0.takeTo (by omega)).below hb7)
          obtain ⟨t, ht⟩ : ∃ t, t = has (vs.take i) v := ⟨_, rfl⟩
          rw [← ht] at hcall
          have HC := Lib.hid hcall
          clear hcall
          have h5 := h4
          simp only [betw, Bool.and_eq_true, decide_eq_true_eq] at h5
          obtain ⟨v, rfl⟩ := Int.eq_ofNat_of_zero_le h5.1
          have hvn : v < n := by omega
          clear h5
          cases t with
          | true =>
            have HE := Lib.hid (show validQ ((n : Int), xs) = false by rw [hE.out, vars_no (by omega) hv.out (by rw [← ht]; simp)]; rfl)
            clear i0 hvl ht hB
            go_wp2_with fail
            refine (within_any _ _ _ _).mono ?_
            rintro e w' ⟨rfl, rfl⟩
            go_wp2_with fail
            refine (HC.out).mono ?_
            rintro e w' ⟨rfl, rfl⟩
            go_wp2_with fail
            go_ret
            exact ⟨ret_bool HE.out.symm, hb7⟩
          | false =>
            have HE := Lib.hid (hE.out.trans (show _ = (varsFrom n (vs.take (i + 1)) (vs.drop (i + 1)) && validFrom n (vbits (m ||| 2 ^ v) (vs.drop (i + 1))) (xs.drop (j + 1))) by rw [vars_yes (by omega) hv.out h4 ht.symm, vbits_at (by omega) hv.out]))
            have hB' := hB.set hvn
            have hk := hB.cell hvn
            have hf := hB.frozen v
            have hmo := or_lt hm hvn
            clear i0 hvl ht hB
            go_wp2_with fail
            refine (within_any _ _ _ _).mono ?_
            rintro e w' ⟨rfl, rfl⟩
            go_wp2_with fail
            refine (HC.out).mono ?_
            rintro e w' ⟨rfl, rfl⟩
            go_wp2_with fail
            go_roundw
            case rel => exact ⟨i + 1, m ||| 2 ^ v, by omega, hmo, by go_num, HE.out, hB', hlo.setCell (Nat.le_refl _) (by simp only []; omega) _⟩
            case measure => simp [intOf]; omega
        · have HE := Lib.hid (show validQ ((n : Int), xs) = validFrom n m (xs.drop (j + 1)) by rw [hE.out, vars_end (by omega), vbits_end (by omega)]; rfl)
          clear i0 hvl
          go_wp2_with fail
          go_roundw
          case rel => exact ⟨j + 1, m, by omega, hm, by go_num, HE.out, hB, hlc⟩
          case measure => simp [intOf]; omega
    · have HE := Lib.hid (hE.out.trans (validFrom_end (by omega)))
      clear t0 hl hE HV
      go_wp2_with fail
      refine (containsBools _ _ _ _ _ hB hn4 hm).mono ?_
      rintro e w' ⟨rfl, rfl⟩
      obtain ⟨t, ht⟩ : ∃ t, t = decide (m = 2 ^ n - 1) := ⟨_, rfl⟩
      rw [← ht] at HE ⊢
      clear ht
      go_wp2_with fail
      go_ret
      exact ⟨ret_bool (by rw [HE.out] <;> simp), hb5⟩

end Go.Proofs.YtpgfkjcekhifiaaGreat

namespace Go.Proofs.YtpgfkjcekhifiaaGreat

open Go.RowKit

set_option linter.unusedVariables false

set_option linter.unusedSimpArgs false

set_option synthInstance.maxSize 2000

set_option synthInstance.maxHeartbeats 400000

set_option maxHeartbeats 2000000 in
theorem validQ_spec (cs : List Value) (x : DQ) (w : World) (h : rQ.rep w cs x) :
    Calls Tryz.prog 48 #[.agg cs.toArray] w fun e w' => e = .returned (.bool (validQ x)) ∧ Below w.heap.size w w' := by
  obtain ⟨ub, un, uc, rfl, hi, g1⟩ := rQ_open h
  clear h
  obtain ⟨i, xs⟩ := x
  simp only at hi g1
  obtain ⟨hi1, hi2⟩ := hi
  have t0 := rS_sl g1
  have hl := t0.len
  have hn := t0.small
  clear t0
  have hb0 : Below w.heap.size w w := Below.refl _ _
  by_cases h1 : betw i 1 4 = true
  case neg =>
    replace h1 : betw i 1 4 = false := by simpa using h1
    have HE := Lib.hid (validQ_no1 (q := (i, xs)) h1)
    go_enter Tryz.func48, Tryz.ntmps48
    obtain ⟨w1, hw1⟩ : ∃ W, W = w.alloc (.cells #[.int .i64 i, .slice ub un uc] 29) := ⟨_, rfl⟩
    have z1 : Below w.heap.size w w1 := by rw [hw1]; exact (Below.refl _ _).alloc (Nat.le_refl _) _
    have s1 : w1.heap.size = w.heap.size + 1 := by rw [hw1]; simp
    have hb1 := on hb0 z1
    have b_0 : w1.cell? ⟨w.heap.size, 0, none⟩ = some (.int .i64 i) := by rw [hw1]; exact box_cell (Below.refl _ _) rfl
    have b_1 : w1.cell? ⟨w.heap.size, 1, none⟩ = some (.slice ub un uc) := by rw [hw1]; exact box_cell (Below.refl _ _) rfl
    have raw1_b_0 := b_0
    have raw1_b_1 := b_1
    rw [hw1] at raw1_b_0 raw1_b_1
    go_wp2_with fail
    rw [← hw1]
    clear hw1
    clear raw1_b_0 raw1_b_1
    refine (l1In_any _ _ _ _).mono ?_
    rintro e w' ⟨rfl, rfl⟩
    clear hl
    go_wp2_with fail
    go_ret
    exact ⟨ret_bool HE.out.symm, hb1⟩
  by_cases h2 : betw un 1 4 = true
  case neg =>
    replace h2 : betw un 1 4 = false := by simpa using h2
    have HE := Lib.hid (validQ_no2 (q := (i, xs)) (by simp only []; rw [hl]; exact h2))
    go_enter Tryz.func48, Tryz.ntmps48
    obtain ⟨w2, hw2⟩ : ∃ W, W = w.alloc (.cells #[.int .i64 i, .slice ub un uc] 29) := ⟨_, rfl⟩
    have z2 : Below w.heap.size w w2 := by rw [hw2]; exact (Below.refl _ _).alloc (Nat.le_refl _) _
    have s2 : w2.heap.size = w.heap.size + 1 := by rw [hw2]; simp
    have hb2 := on hb0 z2
    have b_0 : w2.cell? ⟨w.heap.size, 0, none⟩ = some (.int .i64 i) := by rw [hw2]; exact box_cell (Below.refl _ _) rfl
    have b_1 : w2.cell? ⟨w.heap.size, 1, none⟩ = some (.slice ub un uc) := by rw [hw2]; exact box_cell (Below.refl _ _) rfl
    have raw2_b_0 := b_0
    have raw2_b_1 := b_1
    rw [hw2] at raw2_b_0 raw2_b_1
    go_wp2_with fail
    rw [← hw2]
    clear hw2
    clear raw2_b_0 raw2_b_1
    refine (l1In_any _ _ _ _).mono ?_
    rintro e w' ⟨rfl, rfl⟩
    go_wp2_with fail
    refine (l1In_any _ _ _ _).mono ?_
    rintro e w' ⟨rfl, rfl⟩
    clear hl
    go_wp2_with fail
    go_ret
    exact ⟨ret_bool HE.out.symm, hb2⟩
  have h3 := h1
  simp only [betw, Bool.and_eq_true, decide_eq_true_eq] at h3
  obtain ⟨n, rfl⟩ := Int.eq_ofNat_of_zero_le (show 0 ≤ i by omega)
  have hn1 : 1 ≤ n ∧ n ≤ 4 := by omega
  obtain ⟨hn1, hn4⟩ := hn1
  clear h3 hi1 hi2
  have HV := Lib.hid (validQ_go (xs := xs) h1 (by rw [hl]; exact h2))
  have H2 := Lib.hid h2
  go_enter Tryz.func48, Tryz.ntmps48
  obtain ⟨w3, hw3⟩ : ∃ W, W = w.alloc (.cells #[.int .i64 n, .slice ub un uc] 29) := ⟨_, rfl⟩
  have z3 : Below w.heap.size w w3 := by rw [hw3]; exact (Below.refl _ _).alloc (Nat.le_refl _) _
  have s3 : w3.heap.size = w.heap.size + 1 := by rw [hw3]; simp
  have hb3 := on hb0 z3
  have b_0 : w3.cell? ⟨w.heap.size, 0, none⟩ = some (.int .i64 n) := by rw [hw3]; exact box_cell (Below.refl _ _) rfl
  have b_1 : w3.cell? ⟨w.heap.size, 1, none⟩ = some (.slice ub un uc) := by rw [hw3]; exact box_cell (Below.refl _ _) rfl
  have raw3_b_0 := b_0
  have raw3_b_1 := b_1
  rw [hw3] at raw3_b_0 raw3_b_1
  go_wp2_with fail
  rw [← hw3]
  clear hw3
  clear raw3_b_0 raw3_b_1
  refine (l1In_any _ _ _ _).mono ?_
  rintro e w' ⟨rfl, rfl⟩
  go_wp2_with fail
  refine (l1In_any _ _ _ _).mono ?_
  rintro e w' ⟨rfl, rfl⟩
  go_wp2_with fail
  clear h1 h2
  go_loopw [3, 4] (fun s k wr => ∃ j m : Nat, j ≤ un ∧ m < 2 ^ n ∧ k = .int .i64 j ∧ s = .int .i64 m ∧ Hid (validQ ((n : Int), xs) = validFrom n m (xs.drop j)) ∧ Below w3.heap.size w3 wr) (fun _ k _ => un - (intOf k).toNat)
  case atStart => exact ⟨0, 0, Nat.zero_le _, Nat.two_pow_pos _, rfl, rfl, HV.out, Below.refl _ _⟩
  case round =>
    obtain ⟨j, m, hj, hm, rfl, rfl, hE, hdr⟩ := hrel
    obtain ⟨wo, rfl⟩ : ∃ W, W = wr := ⟨_, rfl⟩
    have hlc := hdr
    have s4 := hdr.size
    have hb4 := on hb3 hdr
    replace b_0 := bxc hdr b_0
    replace b_1 := bxc hdr b_1
    have t0 := rS_sl g1
    have hm16 := pow_le16 hn4
    by_cases hlt : j < un
    · obtain ⟨b1, o1, cs, x, rfl, hx, hr, hc⟩ := t0.at hlt
      obtain ⟨s, vs⟩ := x
      obtain ⟨vb, vn, vc, rfl, hs, g2⟩ := rA_open hr
      simp only at hs g2
      have i0 := rI_ints g2
      have hvl := i0.len
      have hvs := i0.small
      obtain ⟨hvc, hvc2⟩ := rS_cap g2
      have e_lt : b1 < w.heap.size := cell_lt (hc 0 _ rfl)
      have e_0 : wo.cell? ⟨b1, o1 + j * 2, none⟩ = some (.string s) := (hb4.cell (p := ⟨b1, o1 + j * 2, none⟩) e_lt).trans (by have h9 := hc 0 _ rfl; rw [← Nat.add_assoc] at h9; exact h9)
      have e_1 : wo.cell? ⟨b1, o1 + j * 2 + 1, none⟩ = some (.slice vb vn vc) := (hb4.cell (p := ⟨b1, o1 + j * 2 + 1, none⟩) e_lt).trans (by have h9 := hc 1 _ rfl; rw [← Nat.add_assoc] at h9; exact h9)
      have HA := Lib.hid (hE.out.trans (validFrom_at hx.out))
      clear hc t0 hr hl hx hE i0 HV
      obtain ⟨w5, hw5⟩ : ∃ W, W = wo.alloc (.cells #[.string s, .slice vb vn vc] 48) := ⟨_, rfl⟩
      have z5 : Below wo.heap.size wo w5 := by rw [hw5]; exact (Below.refl _ _).alloc (Nat.le_refl _) _
      have s5 : w5.heap.size = wo.heap.size + 1 := by rw [hw5]; simp
      have hb5 := on hb4 z5
      have old5_b_0 := b_0
      have old5_b_1 := b_1
      have old5_e_0 := e_0
      have old5_e_1 := e_1
      replace b_0 := bxc z5 b_0
      replace b_1 := bxc z5 b_1
      replace hlc := on hlc z5
      replace e_0 := bxc z5 e_0
      replace e_1 := bxc z5 e_1
      have p_0 : w5.cell? ⟨wo.heap.size, 0, none⟩ = some (.string s) := by rw [hw5]; exact box_cell (Below.refl _ _) rfl
      have p_1 : w5.cell? ⟨wo.heap.size, 1, none⟩ = some (.slice vb vn vc) := by rw [hw5]; exact box_cell (Below.refl _ _) rfl
      have raw5_b_0 := b_0
      have raw5_b_1 := b_1
      have raw5_e_0 := e_0
      have raw5_e_1 := e_1
      have raw5_p_0 := p_0
      have raw5_p_1 := p_1
      rw [hw5] at raw5_b_0 raw5_b_1 raw5_e_0 raw5_e_1 raw5_p_0 raw5_p_1
      by_cases h1 : nameB s = true
      case neg =>
        replace h1 : nameB s = false := by simpa using h1
        have HE := Lib.hid (show validQ ((n : Int), xs) = false by rw [HA.out]; simp [h1])
        go_wp2_with fail
        rw [← hw5]
        clear hw5
        clear old5_b_0 old5_b_1 old5_e_0 old5_e_1 raw5_b_0 raw5_b_1 raw5_e_0 raw5_e_1 raw5_p_0 raw5_p_1
        refine (l4Name_any _ _ hs).mono ?_
        rintro e w' ⟨rfl, rfl⟩
        go_wp2_with fail
        go_ret
        exact ⟨ret_bool HE.out.symm, hb5⟩
      by_cases h2 : betw vn 1 3 = true
      case neg =>
        replace h2 : betw vn 1 3 = false := by simpa using h2
        have HE := Lib.hid (show validQ ((n : Int), xs) = false by rw [HA.out]; simp [hvl, h2])
        go_wp2_with fail
        rw [← hw5]
        clear hw5
        clear old5_b_0 old5_b_1 old5_e_0 old5_e_1 raw5_b_0 raw5_b_1 raw5_e_0 raw5_e_1 raw5_p_0 raw5_p_1
        refine (l4Name_any _ _ hs).mono ?_
        rintro e w' ⟨rfl, rfl⟩
        go_wp2_with fail
        refine (l1In_any _ _ _ _).mono ?_
        rintro e w' ⟨rfl, rfl⟩
        go_wp2_with fail
        go_ret
        exact ⟨ret_bool HE.out.symm, hb5⟩
      have HA2 := Lib.hid (show validQ ((n : Int), xs) = (varsFrom n (vs.take 0) (vs.drop 0) && validFrom n (vbits m (vs.drop 0)) (xs.drop (j + 1))) by rw [HA.out]; simp [h1, hvl, h2])
      clear HA
      go_wp2_with fail
      rw [← hw5]
      clear hw5
      clear old5_b_0 old5_b_1 old5_e_0 old5_e_1 raw5_b_0 raw5_b_1 raw5_e_0 raw5_e_1 raw5_p_0 raw5_p_1
      refine (l4Name_any _ _ hs).mono ?_
      rintro e w' ⟨rfl, rfl⟩
      go_wp2_with fail
      refine (l1In_any _ _ _ _).mono ?_
      rintro e w' ⟨rfl, rfl⟩
      have h3 := h2
      simp only [betw, Bool.and_eq_true, decide_eq_true_eq] at h3
      go_wp2_with fail
      clear h1 h2
      go_loopw [3, 6] (fun s k wr => ∃ i m : Nat, i ≤ vn ∧ m < 2 ^ n ∧ k = .int .i64 i ∧ s = .int .i64 m ∧ Hid (validQ ((n : Int), xs) = (varsFrom n (vs.take i) (vs.drop i) && validFrom n (vbits m (vs.drop i)) (xs.drop (j + 1)))) ∧ Drew w5 wr) (fun _ k _ => vn - (intOf k).toNat)
      case atStart => exact ⟨0, m, Nat.zero_le _, hm, rfl, rfl, HA2.out, Drew.refl _⟩
      case round =>
        obtain ⟨i, m, hi, hm, rfl, rfl, hE, hdr⟩ := hrel
        have hlo := hdr
        replace hdr : Below w5.heap.size w5 wr := hdr.below _
        have s6 := hdr.size
        have hb6 := on hb5 hdr
        replace b_0 := bxc hdr b_0
        replace b_1 := bxc hdr b_1
        replace hlc := on hlc hdr
        replace e_0 := bxc hdr e_0
        replace e_1 := bxc hdr e_1
        replace p_0 := bxc hdr p_0
        replace p_1 := bxc hdr p_1
        have hm16 := pow_le16 hn4
        have i0 := rI_ints g2
        by_cases hlv : i < vn
        · obtain ⟨b2, o2, v, rfl, hc, hv, hv1, hv2⟩ := i0.get hlv
          have v0_lt : b2 < w.heap.size := cell_lt hc
          have v0 : wr.cell? ⟨b2, o2 + i, none⟩ = some (.int .i64 v) := (hb6.cell (p := ⟨b2, o2 + i, none⟩) v0_lt).trans hc
          clear hc
          by_cases h4 : betw v 0 ((n : Int) - 1) = true
          case neg =>
            replace h4 : betw v 0 ((n : Int) - 1) = false := by simpa using h4
            have HE := Lib.hid (show validQ ((n : Int), xs) = false by rw [hE.out, vars_no (by omega) hv.out (by simp [h4])]; rfl)
            clear i0 hvl
            go_wp2_with fail
            go_quiet ((go_at_call 30; exact quiet_same (l1In_any _ _ _ _)))
            go_wp2_with fail
            go_ret
            exact ⟨ret_bool HE.out.symm, onD hb6 ⟨_, rfl⟩⟩
          have hcall := fun q => l7Has_any (some ⟨b2, o2, none⟩) i vc (vs.take i) v (wr.drewN q) (((i0.takeTo (by omega)).below hb6).drewN q)
          obtain ⟨t, ht⟩ : ∃ t, t = has (vs.take i) v := ⟨_, rfl⟩
          rw [← ht] at hcall
          have HC := Lib.hid hcall
          clear hcall
          have h5 := h4
          simp only [betw, Bool.and_eq_true, decide_eq_true_eq] at h5
          obtain ⟨v, rfl⟩ := Int.eq_ofNat_of_zero_le h5.1
          have hvn : v < n := by omega
          clear h5
          cases t with
          | true =>
            have HE := Lib.hid (show validQ ((n : Int), xs) = false by rw [hE.out, vars_no (by omega) hv.out (by rw [← ht]; simp)]; rfl)
            clear i0 hvl ht
            go_wp2_with fail
            go_quiet ((first | (go_at_call 30; exact quiet_same (l1In_any _ _ _ _)) | (go_at_call 79; exact quiet_same (HC.out _))))
            go_wp2_with fail
            go_ret
            exact ⟨ret_bool HE.out.symm, onD hb6 ⟨_, rfl⟩⟩
          | false =>
            have HE := Lib.hid (hE.out.trans (show _ = (varsFrom n (vs.take (i + 1)) (vs.drop (i + 1)) && validFrom n (vbits (m ||| 2 ^ v) (vs.drop (i + 1))) (xs.drop (j + 1))) by rw [vars_yes (by omega) hv.out h4 ht.symm, vbits_at (by omega) hv.out]))
            have hmo := or_lt hm hvn
            clear i0 hvl ht
            go_wp2_with fail
            go_quiet ((first | (go_at_call 30; exact quiet_same (l1In_any _ _ _ _)) | (go_at_call 79; exact quiet_same (HC.out _))))
            go_wp2_with fail
            go_roundw
            case rel => exact ⟨i + 1, m ||| 2 ^ v, by omega, hmo, by go_num, by show Value.int _ _ = _; first | (rw [or_pow (by omega) (by omega)]) | (rw [← or_pow (m := m) (v := v) (by omega) (by omega)]; rfl), HE.out, hlo.step _⟩
            case measure => simp [intOf]; omega
        · have HE := Lib.hid (show validQ ((n : Int), xs) = validFrom n m (xs.drop (j + 1)) by rw [hE.out, vars_end (by omega), vbits_end (by omega)]; rfl)
          clear i0 hvl
          go_wp2_with fail
          go_roundw
          case rel => exact ⟨j + 1, m, by omega, hm, by go_num, rfl, HE.out, hlc⟩
          case measure => simp [intOf]; omega
    · have HE := Lib.hid (hE.out.trans (validFrom_end (by omega)))
      clear t0 hl hE HV
      go_wp2_with fail
      go_ret
      exact ⟨ret_bool (by rw [HE.out]; exact full_eq (by omega)), hb4⟩

end Go.Proofs.YtpgfkjcekhifiaaGreat

namespace Go.Proofs.YtpgfkjcekhifiaaGreat

open Go.RowKit

set_option linter.unusedVariables false

set_option linter.unusedSimpArgs false

set_option synthInstance.maxSize 2000

set_option synthInstance.maxHeartbeats 400000

theorem allFrom_at {f : Nat → Bool} {k n : Nat} (h : k < n) : ((List.range n).drop k).all f = (f k && ((List.range n).drop (k + 1)).all f) := by
  rw [drop_at (List.getElem?_range h), List.all_cons]

theorem allFrom_end {f : Nat → Bool} {k n : Nat} (h : n ≤ k) : ((List.range n).drop k).all f = true := by
  rw [List.drop_eq_nil_of_le (by simpa using h)]; rfl

theorem anyFrom_at {α : Type} {f : α → Bool} {xs : List α} {j : Nat} {x : α} (h : xs[j]? = some x) : (xs.drop j).any f = (f x || (xs.drop (j + 1)).any f) := by
  rw [drop_at h, List.any_cons]

theorem anyFrom_end {α : Type} {f : α → Bool} {xs : List α} {j : Nat} (h : xs.length ≤ j) : (xs.drop j).any f = false := by
  rw [List.drop_eq_nil_of_le h]; rfl

set_option maxRecDepth 100000 in
set_option maxHeartbeats 4000000 in
theorem fits_any (cs ds : List Value) (t : DT) (x : DA) (vb rb : Option Addr) (vn vc rn rc : Nat) (vars row : List Int) (w : World) (ht : rT.rep w cs t) (hx : rA.rep w ds x) (hv : Ints w vb vn vars) (hr : Ints w rb rn row) (hrv : rn ≤ vn) (hrow : ∀ r ∈ t.2.2, r.length = x.2.length) :
    Calls Tryz.prog 66 #[.agg cs.toArray, .agg ds.toArray, .slice vb vn vc, .slice rb rn rc] w fun e w' => e = .returned (.bool (fitsB vars row (t.2.2, x.2))) ∧ Below w.heap.size w w' := by
  obtain ⟨ub, un, uc, rfl, hs, hi, g1⟩ := rT_open ht
  obtain ⟨ab, an, ac, rfl, hs2, g2⟩ := rA_open hx
  obtain ⟨s, ar, rows⟩ := t
  obtain ⟨m1, av⟩ := x
  simp only at hs hi g1 hs2 g2 hrow
  have t0 := rS_sl g1
  have i0 := rI_ints g2
  have hl := t0.len
  have hn := t0.small
  have hal := i0.len
  have han := i0.small
  have hvl := hv.len
  have hrl := hr.len
  have hvn := hv.small
  have hrn := hr.small
  have HR := Lib.hid hrow
  obtain ⟨F, hF⟩ : ∃ F, fitsB vars row (rows, av) = F := ⟨_, rfl⟩
  have HF : Hid (F = (rows.drop 0).any (agree av vars row)) := Lib.hid (by rw [← hF]; rfl)
  show Calls Tryz.prog 66 _ w fun e w' => e = .returned (.bool (fitsB vars row (rows, av))) ∧ Below w.heap.size w w'
  rw [hF]
  clear ht hx hs hi g1 hs2 g2 hrow hF
  have hb0 : Below w.heap.size w w := Below.refl _ _
  go_enter Tryz.func66, Tryz.ntmps66
  obtain ⟨w1, hw1⟩ : ∃ W, W = w.alloc (.cells #[.string s, .int .i64 ar, .slice ub un uc] 44) := ⟨_, rfl⟩
  have z1 : Below w.heap.size w w1 := by rw [hw1]; exact (Below.refl _ _).alloc (Nat.le_refl _) _
  have s1 : w1.heap.size = w.heap.size + 1 := by rw [hw1]; simp
  have hb1 := on hb0 z1
  have t_0 : w1.cell? ⟨w.heap.size, 0, none⟩ = some (.string s) := by rw [hw1]; exact box_cell (Below.refl _ _) rfl
  have t_1 : w1.cell? ⟨w.heap.size, 1, none⟩ = some (.int .i64 ar) := by rw [hw1]; exact box_cell (Below.refl _ _) rfl
  have t_2 : w1.cell? ⟨w.heap.size, 2, none⟩ = some (.slice ub un uc) := by rw [hw1]; exact box_cell (Below.refl _ _) rfl
  have raw1_t_0 := t_0
  have raw1_t_1 := t_1
  have raw1_t_2 := t_2
  rw [hw1] at raw1_t_0 raw1_t_1 raw1_t_2
  obtain ⟨w2, hw2⟩ : ∃ W, W = w1.alloc (.cells #[.string m1, .slice ab an ac] 48) := ⟨_, rfl⟩
  have z2 : Below w1.heap.size w1 w2 := by rw [hw2]; exact (Below.refl _ _).alloc (Nat.le_refl _) _
  have s2 : w2.heap.size = w1.heap.size + 1 := by rw [hw2]; simp
  have hb2 := on hb1 z2
  replace t_0 := bxc z2 t_0
  replace t_1 := bxc z2 t_1
  replace t_2 := bxc z2 t_2
  have e2 : w1.heap.size = w.heap.size + 1 := by omega
  have x_0 : w2.cell? ⟨w1.heap.size, 0, none⟩ = some (.string m1) := by rw [hw2]; exact box_cell (Below.refl _ _) rfl
  have x_1 : w2.cell? ⟨w1.heap.size, 1, none⟩ = some (.slice ab an ac) := by rw [hw2]; exact box_cell (Below.refl _ _) rfl
  rw [e2] at x_0 x_1
  have raw2_t_0 := t_0
  have raw2_t_1 := t_1
  have raw2_t_2 := t_2
  have raw2_x_0 := x_0
  have raw2_x_1 := x_1
  rw [hw2, hw1] at raw2_t_0 raw2_t_1 raw2_t_2 raw2_x_0 raw2_x_1
  go_wp2_with fail
  rw [← hw1]
  rw [← hw2]
  clear hw2 hw1
  clear raw1_t_0 raw1_t_1 raw1_t_2 raw2_t_0 raw2_t_1 raw2_t_2 raw2_x_0 raw2_x_1
  go_loopw [9] (fun k wr => ∃ j : Nat, j ≤ un ∧ k = .int .i64 j ∧ Hid (F = (rows.drop j).any (agree av vars row)) ∧ Drew w2 wr) (fun k _ => un - (intOf k).toNat)
  case atStart => exact ⟨0, Nat.zero_le _, rfl, HF.out, Drew.refl _⟩
  case round =>
    obtain ⟨i, hi, rfl, hE, hdr⟩ := hrel
    obtain ⟨wo, rfl⟩ : ∃ W, W = wr := ⟨_, rfl⟩
    have hlo := hdr
    clear HF
    replace hdr : Below w2.heap.size w2 wo := hdr.below _
    have s3 := hdr.size
    have hb3 := on hb2 hdr
    replace t_0 := bxc hdr t_0
    replace t_1 := bxc hdr t_1
    replace t_2 := bxc hdr t_2
    replace x_0 := bxc hdr x_0
    replace x_1 := bxc hdr x_1
    by_cases hlt : i < un
    · obtain ⟨b1, o1, yb, yn, yc, y, rfl, hcy, hy, iy, _⟩ := t0.row hlt
      have hyl := iy.len
      have hya : yn = an := by have := HR.out y (List.mem_of_getElem? hy.out); omega
      have y0 : wo.cell? ⟨b1, o1 + i, none⟩ = some (.slice yb yn yc) := ((hb3).cell (p := ⟨b1, o1 + i, none⟩) (cell_lt hcy)).trans hcy
      have hyb1 : b1 < w.heap.size := cell_lt hcy
      have HA := Lib.hid (hE.out.trans (anyFrom_at hy.out))
      obtain ⟨A, hA⟩ : ∃ A, agree av vars row y = A := ⟨_, rfl⟩
      rw [hA] at HA
      have HA0 : Hid (A = (true && ((List.range av.length).drop 0).all (agreeK av vars row y))) := Lib.hid (by rw [← hA, Bool.true_and]; rfl)
      clear hE hcy hy hA hyl
      go_wp2_with fail
      go_loopw [10, 11] (fun s k wr => ∃ (q : Nat) (b : Bool), q ≤ an ∧ s = .bool b ∧ k = .int .i64 q ∧ Hid (A = (b && ((List.range av.length).drop q).all (agreeK av vars row y))) ∧ Drew wo wr) (fun _ k _ => an - (intOf k).toNat)
      case atStart => exact ⟨0, true, Nat.zero_le _, rfl, rfl, HA0.out, Drew.refl _⟩
      case round =>
        obtain ⟨k, q, hk, rfl, rfl, hG, hdr⟩ := hrel
        obtain ⟨wk, rfl⟩ : ∃ W, W = wr := ⟨_, rfl⟩
        have hlk := hdr
        clear HA0
        replace hdr : Below wo.heap.size wo wk := hdr.below _
        have s4 := hdr.size
        have hb4 := on hb3 hdr
        replace t_0 := bxc hdr t_0
        replace t_1 := bxc hdr t_1
        replace t_2 := bxc hdr t_2
        replace x_0 := bxc hdr x_0
        replace x_1 := bxc hdr x_1
        replace y0 := bxc hdr y0
        by_cases hltk : k < an
        · obtain ⟨b2, o2, u, rfl, hcu, hu, hu1, hu2⟩ := i0.get hltk
          have hub2 : b2 < w.heap.size := cell_lt hcu
          have u0 : wk.cell? ⟨b2, o2 + k, none⟩ = some (.int .i64 u) := ((hb4).cell (p := ⟨b2, o2 + k, none⟩) (cell_lt hcu)).trans hcu
          obtain ⟨b3, o3, z, rfl, hcz, hz, hz1, hz2⟩ := iy.get (show k < yn by omega)
          have hzb3 : b3 < w.heap.size := cell_lt hcz
          have z0 : wk.cell? ⟨b3, o3 + k, none⟩ = some (.int .i64 z) := ((hb4).cell (p := ⟨b3, o3 + k, none⟩) (cell_lt hcz)).trans hcz
          have HK := Lib.hid (hG.out.trans (by rw [allFrom_at (show k < av.length by omega), ← Bool.and_assoc]))
          obtain ⟨B, hB⟩ : ∃ B, (q && agreeK av vars row y k) = B := ⟨_, rfl⟩
          rw [hB] at HK
          have HB0 : Hid (B = (q && ((List.range row.length).drop 0).all (agreeJ av vars row y k))) := Lib.hid (by rw [← hB]; rfl)
          have hky : k < yn := by omega
          clear hG hcu hcz hB
          go_wp2_with fail
          go_loopw [10, 12] (fun s k' wr => ∃ (p : Nat) (b : Bool), p ≤ rn ∧ s = .bool b ∧ k' = .int .i64 p ∧ Hid (B = (b && ((List.range row.length).drop p).all (agreeJ av vars row y k))) ∧ Drew wk wr) (fun _ k' _ => rn - (intOf k').toNat)
          case atStart => exact ⟨0, q, Nat.zero_le _, rfl, rfl, HB0.out, Drew.refl _⟩
          case round =>
            obtain ⟨j, b, hj, rfl, rfl, hH, hdr⟩ := hrel
            have hlj := hdr
            clear HB0
            replace hdr : Below wk.heap.size wk wr := hdr.below _
            have s5 := hdr.size
            have hb5 := on hb4 hdr
            replace t_0 := bxc hdr t_0
            replace t_1 := bxc hdr t_1
            replace t_2 := bxc hdr t_2
            replace x_0 := bxc hdr x_0
            replace x_1 := bxc hdr x_1
            replace y0 := bxc hdr y0
            replace u0 := bxc hdr u0
            replace z0 := bxc hdr z0
            by_cases hltj : j < rn
            · obtain ⟨b4, o4, g, rfl, hcg, hg, hg1, hg2⟩ := hv.get (show j < vn by omega)
              have hgb4 : b4 < w.heap.size := cell_lt hcg
              have g0 : wr.cell? ⟨b4, o4 + j, none⟩ = some (.int .i64 g) := ((hb5).cell (p := ⟨b4, o4 + j, none⟩) (cell_lt hcg)).trans hcg
              obtain ⟨b5, o5, r, rfl, hcr, hr9, hr1, hr2⟩ := hr.get hltj
              have hrb5 : b5 < w.heap.size := cell_lt hcr
              have r0 : wr.cell? ⟨b5, o5 + j, none⟩ = some (.int .i64 r) := ((hb5).cell (p := ⟨b5, o5 + j, none⟩) (cell_lt hcr)).trans hcr
              have HS : Hid (B = ((b && (!decide (g = u) || decide (r = z))) && ((List.range row.length).drop (j + 1)).all (agreeJ av vars row y k))) := Lib.hid (by rw [hH.out, allFrom_at (show j < row.length by omega), ← Bool.and_assoc, agreeJ, hg.out, hu.out, hr9.out, hz.out])
              clear hH hcg hcr hg hr9
              have hjv : (j : Int) < (vn : Int) := by omega
              cases b with
              | false =>
                have HN : Hid (B = (false && ((List.range row.length).drop (j + 1)).all (agreeJ av vars row y k))) := Lib.hid (by rw [HS.out, Bool.false_and])
                clear HS
                go_wp2_with fail
                go_quiet (fail)
                go_wp2_with fail
                go_roundw
                case rel => exact ⟨j + 1, false, by omega, rfl, by go_num, HN.out, hlj.step _⟩
                case measure => simp [intOf]; omega
              | true =>
                by_cases hgu : g = u
                · by_cases hrz : r = z
                  · have HN : Hid (B = (true && ((List.range row.length).drop (j + 1)).all (agreeJ av vars row y k))) := Lib.hid (by rw [HS.out, decide_eq_true hrz, Bool.or_true, Bool.and_true])
                    have d1 : (g != u) = false := by simp [hgu]
                    have d2 : (r == z) = true := by simp [hrz]
                    clear HS hgu hrz
                    go_wp2_with fail
                    go_quiet (fail)
                    go_wp2_with fail
                    go_roundw
                    case rel => exact ⟨j + 1, true, by omega, rfl, by go_num, HN.out, hlj.step _⟩
                    case measure => simp [intOf]; omega
                  · have HN : Hid (B = (false && ((List.range row.length).drop (j + 1)).all (agreeJ av vars row y k))) := Lib.hid (by rw [HS.out, decide_eq_true hgu, decide_eq_false hrz]; rfl)
                    have d1 : (g != u) = false := by simp [hgu]
                    have d2 : (r == z) = false := by simp [hrz]
                    clear HS hgu hrz
                    go_wp2_with fail
                    go_quiet (fail)
                    go_wp2_with fail
                    go_roundw
                    case rel => exact ⟨j + 1, false, by omega, rfl, by go_num, HN.out, hlj.step _⟩
                    case measure => simp [intOf]; omega
                · have HN : Hid (B = (true && ((List.range row.length).drop (j + 1)).all (agreeJ av vars row y k))) := Lib.hid (by rw [HS.out, decide_eq_false hgu]; rfl)
                  have d1 : (g != u) = true := by simp [hgu]
                  clear HS hgu
                  go_wp2_with fail
                  go_quiet (fail)
                  go_wp2_with fail
                  go_roundw
                  case rel => exact ⟨j + 1, true, by omega, rfl, by go_num, HN.out, hlj.step _⟩
                  case measure => simp [intOf]; omega
            · have HN : Hid (A = (b && ((List.range av.length).drop (k + 1)).all (agreeK av vars row y))) := Lib.hid (by rw [HK.out, hH.out, allFrom_end (by omega), Bool.and_true])
              clear hH HK
              go_wp2_with fail
              go_roundw
              case rel => exact ⟨k + 1, b, by omega, rfl, by go_num, HN.out, hlk.trans hlj⟩
              case measure => simp [intOf]; omega
        · have HN : Hid (A = q) := Lib.hid (by rw [hG.out, allFrom_end (by omega), Bool.and_true])
          clear hG
          cases q with
          | true =>
            have HE : Hid (F = true) := Lib.hid (by rw [HA.out, HN.out]; rfl)
            clear HA HN
            go_wp2_with fail
            go_ret
            exact ⟨ret_bool HE.out.symm, hb4⟩
          | false =>
            have HE : Hid (F = (rows.drop (i + 1)).any (agree av vars row)) := Lib.hid (by rw [HA.out, HN.out]; rfl)
            clear HA HN
            go_wp2_with fail
            go_roundw
            case rel => exact ⟨i + 1, by omega, by go_num, HE.out, hlo.trans hlk⟩
            case measure => simp [intOf]; omega
    · have HE : Hid (F = false) := Lib.hid (by rw [hE.out, anyFrom_end (by omega)])
      clear hE
      go_wp2_with fail
      go_ret
      exact ⟨ret_bool HE.out.symm, hb3⟩

end Go.Proofs.YtpgfkjcekhifiaaGreat

namespace Go.Proofs.YtpgfkjcekhifiaaGreat

open Go.RowKit

set_option linter.unusedVariables false

set_option linter.unusedSimpArgs false

set_option synthInstance.maxSize 2000

set_option synthInstance.maxHeartbeats 400000

theorem full_int {n : Nat} (hn : n ≤ 16) : wrap64 (wrap64 ((2 : Int) ^ n) - 1) = ((2 ^ n - 1 : Nat) : Int) := by
  have h1 := Nat.pow_le_pow_right (show 0 < 2 by omega) hn
  have h2 := Nat.two_pow_pos n
  rw [wrap_pow hn]
  generalize 2 ^ n = p at h1 h2
  rw [IntWalk.wrap64_in _ ⟨by omega, by omega⟩]
  omega

theorem fullMask_no {q : DQ} (h : validQ q = false) : fullMask q = 0 := by simp [fullMask, h]

theorem fullMask_yes {q : DQ} (h : validQ q = true) : fullMask q = ((2 ^ q.2.length - 1 : Nat) : Int) := by simp [fullMask, h]

set_option maxHeartbeats 800000 in
theorem fullMask_impl (cs : List Value) (x : DQ) (w : World) (h : rQ.rep w cs x) :
    Calls Tryz.prog 27 #[.agg cs.toArray] w fun e w' => e = .returned (.int .i64 (fullMask x)) ∧ Below w.heap.size w w' := by
  obtain ⟨ub, un, uc, rfl, hi, g1⟩ := rQ_open h
  have hl := (rS_sl g1).len
  clear g1 hi
  have hb0 : Below w.heap.size w w := Below.refl _ _
  go_enter Tryz.func27, Tryz.ntmps27
  obtain ⟨w1, hw1⟩ : ∃ W, W = w.alloc (.cells #[.int .i64 x.1, .slice ub un uc] 29) := ⟨_, rfl⟩
  have z1 : Below w.heap.size w w1 := by rw [hw1]; exact (Below.refl _ _).alloc (Nat.le_refl _) _
  have s1 : w1.heap.size = w.heap.size + 1 := by rw [hw1]; simp
  have hb1 := on hb0 z1
  have b_0 : w1.cell? ⟨w.heap.size, 0, none⟩ = some (.int .i64 x.1) := by rw [hw1]; exact box_cell (Below.refl _ _) rfl
  have b_1 : w1.cell? ⟨w.heap.size, 1, none⟩ = some (.slice ub un uc) := by rw [hw1]; exact box_cell (Below.refl _ _) rfl
  have raw1_b_0 := b_0
  have raw1_b_1 := b_1
  rw [hw1] at raw1_b_0 raw1_b_1
  go_wp2_with fail
  rw [← hw1]
  clear hw1
  clear raw1_b_0 raw1_b_1
  refine (validQ_impl _ x _ (rQ.mono h hb1)).mono ?_
  rintro e w2 ⟨rfl, z2⟩
  have s3 := z2.size
  have hb3 := on hb1 z2
  replace b_0 := bxc z2 b_0
  replace b_1 := bxc z2 b_1
  by_cases hv : validQ x = true
  case neg =>
    replace hv : validQ x = false := by simpa using hv
    have HE := Lib.hid (fullMask_no hv)
    clear hl
    go_wp2_with fail
    go_ret
    exact ⟨ret_int HE.out.symm, hb3⟩
  have h9 : un ≤ 16 := by obtain ⟨n, hq⟩ := QOk.of hv; have := hq.len; omega
  have HE := Lib.hid (show wrap64 (wrap64 ((2 : Int) ^ un) - 1) = fullMask x by rw [full_int h9, fullMask_yes hv, hl])
  clear hl
  go_wp2_with fail
  go_ret
  exact ⟨ret_int HE.out, hb3⟩

set_option maxHeartbeats 800000 in
theorem fullMask_spec (cs : List Value) (x : DQ) (w : World) (h : rQ.rep w cs x) :
    Calls Tryz.prog 21 #[.agg cs.toArray] w fun e w' => e = .returned (.int .i64 (fullMask x)) ∧ Below w.heap.size w w' := by
  obtain ⟨ub, un, uc, rfl, hi, g1⟩ := rQ_open h
  have hl := (rS_sl g1).len
  clear g1 hi
  have hb0 : Below w.heap.size w w := Below.refl _ _
  go_enter Tryz.func21, Tryz.ntmps21
  obtain ⟨w1, hw1⟩ : ∃ W, W = w.alloc (.cells #[.int .i64 x.1, .slice ub un uc] 29) := ⟨_, rfl⟩
  have z1 : Below w.heap.size w w1 := by rw [hw1]; exact (Below.refl _ _).alloc (Nat.le_refl _) _
  have s1 : w1.heap.size = w.heap.size + 1 := by rw [hw1]; simp
  have hb1 := on hb0 z1
  have b_0 : w1.cell? ⟨w.heap.size, 0, none⟩ = some (.int .i64 x.1) := by rw [hw1]; exact box_cell (Below.refl _ _) rfl
  have b_1 : w1.cell? ⟨w.heap.size, 1, none⟩ = some (.slice ub un uc) := by rw [hw1]; exact box_cell (Below.refl _ _) rfl
  have raw1_b_0 := b_0
  have raw1_b_1 := b_1
  rw [hw1] at raw1_b_0 raw1_b_1
  go_wp2_with fail
  rw [← hw1]
  clear hw1
  clear raw1_b_0 raw1_b_1
  refine (validQ_spec _ x _ (rQ.mono h hb1)).mono ?_
  rintro e w2 ⟨rfl, z2⟩
  have s3 := z2.size
  have hb3 := on hb1 z2
  replace b_0 := bxc z2 b_0
  replace b_1 := bxc z2 b_1
  by_cases hv : validQ x = true
  case neg =>
    replace hv : validQ x = false := by simpa using hv
    have HE := Lib.hid (fullMask_no hv)
    clear hl
    go_wp2_with fail
    go_ret
    exact ⟨ret_int HE.out.symm, hb3⟩
  have h9 : un ≤ 16 := by obtain ⟨n, hq⟩ := QOk.of hv; have := hq.len; omega
  have HE := Lib.hid (show wrap64 (wrap64 ((2 : Int) ^ un) - 1) = fullMask x by rw [full_int h9, fullMask_yes hv, hl])
  clear hl
  go_wp2_with fail
  go_ret
  exact ⟨ret_int HE.out, hb3⟩

set_option maxHeartbeats 800000 in
theorem maskOk_spec (cs : List Value) (x : DQ) (k : Int) (w : World) (h : rQ.rep w cs x) :
    Calls Tryz.prog 63 #[.agg cs.toArray, .int .i64 k] w fun e w' => e = .returned (.bool (maskOkB x k)) ∧ Below w.heap.size w w' := by
  obtain ⟨ub, un, uc, rfl, hi, g1⟩ := rQ_open h
  have hl := (rS_sl g1).len
  clear g1 hi
  have hb0 : Below w.heap.size w w := Below.refl _ _
  go_enter Tryz.func63, Tryz.ntmps63
  obtain ⟨w1, hw1⟩ : ∃ W, W = w.alloc (.cells #[.int .i64 x.1, .slice ub un uc] 29) := ⟨_, rfl⟩
  have z1 : Below w.heap.size w w1 := by rw [hw1]; exact (Below.refl _ _).alloc (Nat.le_refl _) _
  have s1 : w1.heap.size = w.heap.size + 1 := by rw [hw1]; simp
  have hb1 := on hb0 z1
  have b_0 : w1.cell? ⟨w.heap.size, 0, none⟩ = some (.int .i64 x.1) := by rw [hw1]; exact box_cell (Below.refl _ _) rfl
  have b_1 : w1.cell? ⟨w.heap.size, 1, none⟩ = some (.slice ub un uc) := by rw [hw1]; exact box_cell (Below.refl _ _) rfl
  have raw1_b_0 := b_0
  have raw1_b_1 := b_1
  rw [hw1] at raw1_b_0 raw1_b_1
  go_wp2_with fail
  rw [← hw1]
  clear hw1
  clear raw1_b_0 raw1_b_1
  refine (validQ_spec _ x _ (rQ.mono h hb1)).mono ?_
  rintro e w2 ⟨rfl, z2⟩
  have s3 := z2.size
  have hb3 := on hb1 z2
  replace b_0 := bxc z2 b_0
  replace b_1 := bxc z2 b_1
  by_cases hv : validQ x = true
  case neg =>
    replace hv : validQ x = false := by simpa using hv
    have HE := Lib.hid (show maskOkB x k = false by simp [maskOkB, hv])
    clear hl
    go_wp2_with fail
    go_ret
    exact ⟨ret_bool HE.out.symm, hb3⟩
  have h9 : un ≤ 16 := by obtain ⟨n, hq⟩ := QOk.of hv; have := hq.len; omega
  have HE := Lib.hid (show betw k 0 (wrap64 (wrap64 ((2 : Int) ^ un) - 1)) = maskOkB x k by rw [full_int h9, ← hl]; simp [maskOkB, hv])
  clear hl
  go_wp2_with fail
  refine (l1In_any _ _ _ _).mono ?_
  rintro e w' ⟨rfl, rfl⟩
  obtain ⟨t, ht⟩ : ∃ t, t = betw k 0 (wrap64 (wrap64 ((2 : Int) ^ un) - 1)) := ⟨_, rfl⟩
  rw [← ht] at HE ⊢
  clear ht
  go_wp2_with fail
  go_ret
  exact ⟨ret_bool HE.out, hb3⟩

end Go.Proofs.YtpgfkjcekhifiaaGreat

namespace Go.Proofs.YtpgfkjcekhifiaaGreat

open Go.RowKit

set_option linter.unusedVariables false

set_option linter.unusedSimpArgs false

def nearFrom (K B m : Nat) : Nat → List DA → Nat
  | _, [] => m
  | i, a :: t => nearFrom K B (if !bitAt K i && decide (vbits 0 a.2 &&& B ≠ 0) then m ||| 2 ^ i else m) (i + 1) t

def near (q : DQ) (K : Nat) : Nat := nearFrom K (bitsOf q K) 0 0 q.2

theorem nearFrom_at {K B m j : Nat} {xs : List DA} {a : DA} (h : xs[j]? = some a) : nearFrom K B m j (xs.drop j) = nearFrom K B (if !bitAt K j && decide (vbits 0 a.2 &&& B ≠ 0) then m ||| 2 ^ j else m) (j + 1) (xs.drop (j + 1)) := by
  obtain ⟨h1, rfl⟩ := List.getElem?_eq_some_iff.1 h
  rw [List.drop_eq_getElem_cons h1]; rfl

theorem nearFrom_end {K B m j : Nat} {xs : List DA} (h : xs.length ≤ j) : nearFrom K B m j (xs.drop j) = m := by
  rw [List.drop_eq_nil_of_le h]; rfl

theorem nearFrom_lt {K B n : Nat} : ∀ {xs : List DA} {m i : Nat}, i + xs.length ≤ n → m < 2 ^ n → nearFrom K B m i xs < 2 ^ n
  | [], m, i, _, hm => hm
  | a :: t, m, i, h, hm => by
    simp only [List.length_cons] at h
    rw [nearFrom]
    refine nearFrom_lt (by omega) ?_
    split
    · exact or_lt hm (by omega)
    · exact hm

theorem near_lt (q : DQ) (K : Nat) : near q K < 2 ^ q.2.length := nearFrom_lt (by omega) (Nat.two_pow_pos _)

theorem qbits_pow {i : Nat} : ∀ {xs : List DA} {m k j : Nat} {a : DA}, xs[j]? = some a → i = k + j → qbits (2 ^ i) m k xs = vbits m a.2
  | [], m, k, j, a, h, _ => by simp at h
  | x :: t, m, k, 0, a, h, hi => by
    simp at h; subst h
    obtain rfl : i = k := by omega
    rw [qbits, bitAt_testBit, Nat.testBit_two_pow_self, if_pos rfl]
    have : ∀ (xs : List DA) (m l : Nat), i < l → qbits (2 ^ i) m l xs = m := by
      intro xs
      induction xs with
      | nil => intro m l _; rfl
      | cons y ys ih => intro m l hl; rw [qbits, bitAt_testBit, Nat.testBit_two_pow_of_ne (by omega)]; simp only [Bool.false_eq_true, if_false]; exact ih m (l + 1) (by omega)
    exact this t _ _ (by omega)
  | x :: t, m, k, j + 1, a, h, hi => by
    rw [qbits, bitAt_testBit, Nat.testBit_two_pow_of_ne (by omega)]
    simp only [Bool.false_eq_true, if_false]
    exact qbits_pow (j := j) (by simpa using h) (by omega)

theorem bitsOf_pow {q : DQ} {j : Nat} {a : DA} (h : q.2[j]? = some a) : bitsOf q (2 ^ j) = vbits 0 a.2 := qbits_pow h (by omega)

theorem both_pos {q : DQ} {n : Nat} (hq : QOk q n) {a : DA} (ha : a ∈ q.2) (K : Nat) : decide (0 < (both a.2 (varsOf q K)).length) = decide (vbits 0 a.2 &&& bitsOf q K ≠ 0) := by
  have hv := hq.vars a ha
  have hn := hq.le
  rw [Bool.eq_iff_iff]
  simp only [decide_eq_true_eq]
  constructor
  · intro h
    obtain ⟨x, hx⟩ := List.exists_mem_of_length_pos h
    simp only [both, List.mem_filter] at hx
    have h1 := hv x hx.1
    obtain ⟨v, rfl⟩ := Int.eq_ofNat_of_zero_le h1.1
    rw [varsOf_has q (by omega)] at hx
    intro e
    have h2 : (vbits 0 a.2 &&& bitsOf q K).testBit v = true := by
      rw [Nat.testBit_and, vbits_test (fun y hy => (hv y hy).1), hx.2]
      simp [has, hx.1]
    rw [e] at h2
    simp at h2
  · intro h
    obtain ⟨v, hv2⟩ := Nat.exists_testBit_of_ne_zero h
    rw [Nat.testBit_and, Bool.and_eq_true, vbits_test (fun y hy => (hv y hy).1)] at hv2
    simp only [Nat.zero_testBit, Bool.false_or] at hv2
    have hm : (v : Int) ∈ a.2 := by simpa [has] using hv2.1
    have h1 := hv _ hm
    refine List.length_pos_of_mem (a := (v : Int)) ?_
    simp only [both, List.mem_filter]
    exact ⟨hm, by rw [varsOf_has q (by omega)]; exact hv2.2⟩

def lowB (K : Nat) : Nat := if K % 2 = 1 then 1 else if K % 4 = 2 then 2 else if K % 8 = 4 then 4 else if K % 16 = 8 then 8 else 0

def stepM (q : DQ) (K g : Nat) : Nat := g ||| (near q g &&& K)

def iterM (q : DQ) (K : Nat) : Nat → Nat → Nat
  | 0, g => g
  | k + 1, g => iterM q K k (stepM q K g)

def joined (q : DQ) (K : Nat) : Bool := decide (iterM q K q.2.length (lowB K) = K)

def pc (x : Nat) : Nat := x % 2 + x / 2 % 2 + x / 4 % 2 + x / 8 % 2

theorem pc_lt : ∀ a, a < 16 → ∀ b, b < 16 → a ||| b ≠ a → pc a < pc (a ||| b) := by decide +kernel

theorem pc_le : ∀ a, a < 16 → ∀ b, b < 16 → a ||| b = b → pc a ≤ pc b := by decide +kernel

theorem pc_len : ∀ n, n < 5 → ∀ K, K < 16 → K < 2 ^ n → pc K ≤ n := by decide +kernel

theorem low_facts : ∀ K, K < 16 → lowB K ||| K = K ∧ lowB K < 16 ∧ (K ≠ 0 → pc (lowB K) = 1) := by decide +kernel

theorem or_sub : ∀ g, g < 16 → ∀ K, K < 16 → ∀ x, x < 16 → g ||| K = K → (g ||| (x &&& K)) ||| K = K := by decide +kernel

theorem stepM_lt {q : DQ} {K g : Nat} (hq : q.2.length ≤ 4) (hg : g < 16) : stepM q K g < 16 := by
  have h1 := near_lt q g
  have h2 := Nat.lt_of_lt_of_le h1 (pow_le16 hq)
  exact Nat.or_lt_two_pow (n := 4) hg (Nat.lt_of_le_of_lt Nat.and_le_left h2)

theorem stepM_sub {q : DQ} {K g : Nat} (hq : q.2.length ≤ 4) (hg : g < 16) (hK : K < 16) (h : g ||| K = K) : stepM q K g ||| K = K :=
  or_sub g hg K hK _ (Nat.lt_of_lt_of_le (near_lt q g) (pow_le16 hq)) h

theorem iterM_fix {q : DQ} {K g : Nat} (h : stepM q K g = g) : ∀ k, iterM q K k g = g
  | 0 => rfl
  | k + 1 => by rw [iterM, h]; exact iterM_fix h k

theorem step_room {q : DQ} {K g i : Nat} (hq : q.2.length ≤ 4) (hg : g < 16) (hK : K < 2 ^ q.2.length) (hs : g ||| K = K) (hi : i + 1 ≤ pc g) (hne : stepM q K g ≠ g) : i + 2 ≤ pc (stepM q K g) ∧ i + 2 ≤ q.2.length := by
  have hK16 := Nat.lt_of_lt_of_le hK (pow_le16 hq)
  have hn := Nat.lt_of_lt_of_le (near_lt q g) (pow_le16 hq)
  have h1 := pc_lt g hg (near q g &&& K) (Nat.lt_of_le_of_lt Nat.and_le_left hn) hne
  have h2 := pc_le _ (stepM_lt hq hg) K hK16 (stepM_sub hq hg hK16 hs)
  have h3 := pc_len q.2.length (by omega) K hK16 hK
  unfold stepM at *
  omega

def conn (q : DQ) (K : Nat) : Bool := decide (K ≠ 0) && joined q K

def connTo (q : DQ) : Nat → List Int
  | 0 => []
  | m + 1 => connTo q m ++ (if joined q (m + 1) then [((m + 1 : Nat) : Int)] else [])

theorem connTo_len (q : DQ) : ∀ m, (connTo q m).length ≤ m
  | 0 => by simp [connTo]
  | m + 1 => by have := connTo_len q m; simp only [connTo, List.length_append]; split <;> simp <;> omega

theorem connTo_yes {q : DQ} {m : Nat} (h : joined q (m + 1) = true) : connTo q (m + 1) = connTo q m ++ [((m + 1 : Nat) : Int)] := by rw [connTo, h]; rfl

theorem connTo_no {q : DQ} {m : Nat} (h : joined q (m + 1) = false) : connTo q (m + 1) = connTo q m := by rw [connTo, h]; simp

def connMasks (q : DQ) : List Int := connTo q (fullMask q).toNat

end Go.Proofs.YtpgfkjcekhifiaaGreat

namespace Go.Proofs.YtpgfkjcekhifiaaGreat

open Go.RowKit

set_option linter.unusedVariables false

set_option linter.unusedSimpArgs false

set_option synthInstance.maxSize 2000

set_option synthInstance.maxHeartbeats 400000

set_option maxHeartbeats 1000000 in
theorem l7Bits_any (cs : List Value) (x : DQ) (K n : Nat) (w : World) (h : rQ.rep w cs x) (hq : QOk x n) (hK : K < 16) :
    Calls Tryz.prog 65 #[.agg cs.toArray, .int .i64 K] w fun e w' => e = .returned (.int .i64 (bitsOf x K)) ∧ Below w.heap.size w w' := by
  obtain ⟨ub, un, uc, rfl, hi, g1⟩ := rQ_open h
  clear h hi
  obtain ⟨i, xs⟩ := x
  simp only at g1
  have t0 := rS_sl g1
  have hl := t0.len
  have hn4 := hq.le
  have hl4 := hq.len
  simp only at hl4
  have hun : un ≤ 4 := by omega
  have HQ := Lib.hid hq
  have HB := Lib.hid (show bitsOf (i, xs) K = qbits K 0 0 (xs.drop 0) by simp [bitsOf])
  clear hq hl4
  have hb0 : Below w.heap.size w w := Below.refl _ _
  go_enter Tryz.func65, Tryz.ntmps65
  obtain ⟨w1, hw1⟩ : ∃ W, W = w.alloc (.cells #[.int .i64 i, .slice ub un uc] 29) := ⟨_, rfl⟩
  have z1 : Below w.heap.size w w1 := by rw [hw1]; exact (Below.refl _ _).alloc (Nat.le_refl _) _
  have s1 : w1.heap.size = w.heap.size + 1 := by rw [hw1]; simp
  have hb1 := on hb0 z1
  have b_0 : w1.cell? ⟨w.heap.size, 0, none⟩ = some (.int .i64 i) := by rw [hw1]; exact box_cell (Below.refl _ _) rfl
  have b_1 : w1.cell? ⟨w.heap.size, 1, none⟩ = some (.slice ub un uc) := by rw [hw1]; exact box_cell (Below.refl _ _) rfl
  have raw1_b_0 := b_0
  have raw1_b_1 := b_1
  rw [hw1] at raw1_b_0 raw1_b_1
  go_wp2_with fail
  rw [← hw1]
  clear hw1
  clear raw1_b_0 raw1_b_1
  go_loopw [5, 6] (fun s k wr => ∃ j m : Nat, j ≤ un ∧ m < 2 ^ n ∧ k = .int .i64 j ∧ s = .int .i64 m ∧ Hid (bitsOf (i, xs) K = qbits K m j (xs.drop j)) ∧ Drew w1 wr) (fun _ k _ => un - (intOf k).toNat)
  case atStart => exact ⟨0, 0, Nat.zero_le _, Nat.two_pow_pos _, rfl, rfl, HB.out, Drew.refl _⟩
  case round =>
    obtain ⟨j, m, hj, hm, rfl, rfl, hE, hdr⟩ := hrel
    obtain ⟨wo, rfl⟩ : ∃ W, W = wr := ⟨_, rfl⟩
    have hlc := hdr
    replace hdr : Below w1.heap.size w1 wo := hdr.below _
    have s2 := hdr.size
    have hb2 := on hb1 hdr
    replace b_0 := bxc hdr b_0
    replace b_1 := bxc hdr b_1
    by_cases hlt : j < un
    · obtain ⟨b1, o1, cs, x, rfl, hx, hr, hc⟩ := t0.at hlt
      obtain ⟨s, vs⟩ := x
      obtain ⟨vb, vn, vc, rfl, hs, g2⟩ := rA_open hr
      simp only at hs g2
      have i0 := rI_ints g2
      have hvl := i0.len
      have hvs := i0.small
      have e_lt : b1 < w.heap.size := cell_lt (hc 0 _ rfl)
      have e_0 : wo.cell? ⟨b1, o1 + j * 2, none⟩ = some (.string s) := (hb2.cell (p := ⟨b1, o1 + j * 2, none⟩) e_lt).trans (by have h9 := hc 0 _ rfl; rw [← Nat.add_assoc] at h9; exact h9)
      have e_1 : wo.cell? ⟨b1, o1 + j * 2 + 1, none⟩ = some (.slice vb vn vc) := (hb2.cell (p := ⟨b1, o1 + j * 2 + 1, none⟩) e_lt).trans (by have h9 := hc 1 _ rfl; rw [← Nat.add_assoc] at h9; exact h9)
      have HA := Lib.hid (hE.out.trans (qbits_at hx.out))
      have HV := Lib.hid (HQ.out.vars _ (List.mem_of_getElem? hx.out))
      clear hc t0 hr hl hx hE HB
      simp only at HA HV
      have hbt := bit_test K j (by omega)
      cases hb : bitAt K j with
      | true =>
        rw [hb] at HA hbt
        replace HA : Hid (bitsOf (i, xs) K = qbits K (vbits m (vs.drop 0)) (j + 1) (xs.drop (j + 1))) := Lib.hid (by rw [HA.out]; simp)
        clear hb
        go_wp2_with fail
        go_loopw [5, 7] (fun s k wr => ∃ i' m : Nat, i' ≤ vn ∧ m < 2 ^ n ∧ k = .int .i64 i' ∧ s = .int .i64 m ∧ Hid (bitsOf (i, xs) K = qbits K (vbits m (vs.drop i')) (j + 1) (xs.drop (j + 1))) ∧ Drew wo wr) (fun _ k _ => vn - (intOf k).toNat)
        case atStart => exact ⟨0, m, Nat.zero_le _, hm, rfl, rfl, HA.out, Drew.refl _⟩
        case round =>
          obtain ⟨i', m, hi, hm, rfl, rfl, hE, hdr⟩ := hrel
          have hlo := hdr
          replace hdr : Below wo.heap.size wo wr := hdr.below _
          have s3 := hdr.size
          have hb3 := on hb2 hdr
          replace b_0 := bxc hdr b_0
          replace b_1 := bxc hdr b_1
          replace e_0 := bxc hdr e_0
          replace e_1 := bxc hdr e_1
          have hm16 := pow_le16 hn4
          by_cases hlv : i' < vn
          · obtain ⟨b2, o2, v, rfl, hc, hv, hv1, hv2⟩ := i0.get hlv
            have v0_lt : b2 < w.heap.size := cell_lt hc
            have v0 : wr.cell? ⟨b2, o2 + i', none⟩ = some (.int .i64 v) := (hb3.cell (p := ⟨b2, o2 + i', none⟩) v0_lt).trans hc
            clear hc
            have hvr := HV.out v (by rw [← hv.out]; exact List.getD_eq_getElem?_getD (l := vs) ▸ (by rw [List.getElem?_eq_getElem (by omega)]; exact List.getElem_mem _))
            obtain ⟨v, rfl⟩ := Int.eq_ofNat_of_zero_le hvr.1
            have hvn : v < n := by omega
            have HE := Lib.hid (hE.out.trans (show _ = qbits K (vbits (m ||| 2 ^ v) (vs.drop (i' + 1))) (j + 1) (xs.drop (j + 1)) by rw [vbits_at (by omega) hv.out]))
            have hmo := or_lt hm hvn
            clear i0 hvl hvr hv hE
            go_wp2_with fail
            go_roundw
            case rel => exact ⟨i' + 1, m ||| 2 ^ v, by omega, hmo, by go_num, by show Value.int _ _ = _; rw [or_pow (by omega) (by omega)], HE.out, hlo⟩
            case measure => simp [intOf]; omega
          · have HE := Lib.hid (show bitsOf (i, xs) K = qbits K m (j + 1) (xs.drop (j + 1)) by rw [hE.out, vbits_end (by omega)])
            clear i0 hvl hE
            go_wp2_with fail
            go_roundw
            case rel => exact ⟨j + 1, m, by omega, hm, by go_num, rfl, HE.out, hlc.trans hlo⟩
            case measure => simp [intOf]; omega
      | false =>
        rw [hb] at HA hbt
        replace HA : Hid (bitsOf (i, xs) K = qbits K m (j + 1) (xs.drop (j + 1))) := Lib.hid (by rw [HA.out]; simp)
        clear hb
        go_wp2_with fail
        go_loopw [5, 7] (fun s k wr => k = .int .i64 0 ∧ s = .int .i64 m ∧ wr = wo) (fun _ _ _ => 0)
        case atStart => exact ⟨rfl, rfl, rfl⟩
        case round =>
          obtain ⟨rfl, rfl, rfl⟩ := hrel
          clear i0 hvl
          by_cases hv0 : 0 < vn
          all_goals
            go_wp2_with fail
            go_roundw
            case rel => exact ⟨j + 1, m, by omega, hm, by go_num, rfl, HA.out, hlc⟩
            case measure => simp [intOf]; omega
    · have HE := Lib.hid (hE.out.trans (qbits_end (by omega)))
      clear t0 hl hE HB
      go_wp2_with fail
      go_ret
      exact ⟨ret_int (by rw [HE.out]), hb2⟩

set_option maxHeartbeats 1000000 in
theorem l7List_any (M : Nat) (w : World) (hM : M < 16) :
    Calls Tryz.prog 64 #[.int .i64 M] w fun e w' => ∃ b n c, e = .returned (.slice b n c) ∧ OwnInts w.heap.size w' (.slice b n c) n (bitsTo M 4) ∧ Below w.heap.size w w' := by
  go_enter Tryz.func64, Tryz.ntmps64
  go_wp2
  go_loopw [3, 4] (fun v i wr => ∃ (j : Nat), j ≤ 4 ∧ i = .int .i64 j ∧ ∃ n, OwnInts w.heap.size wr v n (bitsTo M j) ∧ Below w.heap.size w wr) (fun _ i _ => 4 - (intOf i).toNat)
  case atStart => exact ⟨0, Nat.zero_le _, rfl, 0, own_empty (Nat.le_refl _), (Below.refl _ _).alloc (Nat.le_refl _) _⟩
  case round =>
    obtain ⟨j, hj, rfl, n, hown, hbl⟩ := hrel
    have hsz := hbl.size
    have hn4 : n ≤ 4 := by have := hown.len; have := bitsTo_len M j; omega
    by_cases hlt : j < 4
    · cases hbit : bitAt M j with
      | true =>
        have ht := bit_test M j (by omega)
        rw [hbit] at ht
        have HB := Lib.hid hbit
        clear hbit
        go_wp2_with ((at_builtin; refine wpList_app1 _ _ _ _ _ _ hown hbl hsz ⟨by omega, by omega⟩ (by omega) rfl rfl rfl rfl ?_; intro v' w1 hown' hb' hsz'))
        rw [← bitsTo_yes HB.out] at hown'
        go_roundw
        case rel => exact ⟨j + 1, by omega, by go_num, n + 1, hown', hb'⟩
        case measure => simp [intOf]; omega
      | false =>
        have ht := bit_test M j (by omega)
        rw [hbit] at ht
        rw [← bitsTo_no hbit] at hown
        have HO := Lib.hid hown
        clear hbit hown
        go_wp2_with fail
        go_roundw
        case rel => exact ⟨j + 1, by omega, by go_num, n, HO.out, hbl⟩
        case measure => simp [intOf]; omega
    · obtain rfl : j = 4 := by omega
      obtain ⟨a, cap, rfl, _⟩ := own_form hown.row
      go_wp2
      go_ret
      exact ⟨_, _, _, rfl, hown, hbl⟩

set_option maxHeartbeats 1000000 in
theorem maskVars_spec (cs : List Value) (x : DQ) (k : Int) (w : World) (h : rQ.rep w cs x) :
    Calls Tryz.prog 31 #[.agg cs.toArray, .int .i64 k] w fun e w' => ∃ u, e = .returned u ∧ Own oI w.heap.size w'.heap.size w' [u] (maskVars x k) ∧ Below w.heap.size w w' := by
  obtain ⟨ub, un, uc, rfl⟩ := rQ_form h
  have hb0 : Below w.heap.size w w := Below.refl _ _
  go_enter Tryz.func31, Tryz.ntmps31
  obtain ⟨w1, hw1⟩ : ∃ W, W = w.alloc (.cells #[.int .i64 x.1, .slice ub un uc] 29) := ⟨_, rfl⟩
  have z1 : Below w.heap.size w w1 := by rw [hw1]; exact (Below.refl _ _).alloc (Nat.le_refl _) _
  have s1 : w1.heap.size = w.heap.size + 1 := by rw [hw1]; simp
  have hb1 := on hb0 z1
  have b_0 : w1.cell? ⟨w.heap.size, 0, none⟩ = some (.int .i64 x.1) := by rw [hw1]; exact box_cell (Below.refl _ _) rfl
  have b_1 : w1.cell? ⟨w.heap.size, 1, none⟩ = some (.slice ub un uc) := by rw [hw1]; exact box_cell (Below.refl _ _) rfl
  have raw1_b_0 := b_0
  have raw1_b_1 := b_1
  rw [hw1] at raw1_b_0 raw1_b_1
  go_wp2_with fail
  rw [← hw1]
  clear hw1
  clear raw1_b_0 raw1_b_1
  refine (maskOk_spec _ x k _ (rQ.mono h hb1)).mono ?_
  rintro e w2 ⟨rfl, z2⟩
  have s3 := z2.size
  have hb3 := on hb1 z2
  replace b_0 := bxc z2 b_0
  replace b_1 := bxc z2 b_1
  by_cases hv : maskOkB x k = true
  case neg =>
    replace hv : maskOkB x k = false := by simpa using hv
    have HE := Lib.hid (maskVars_no hv)
    go_wp2_with fail
    go_ret
    exact ⟨_, rfl, by rw [HE.out]; exact ((own_empty (Nat.le_refl _)).own).mono (by omega) (Nat.le_refl _), hb3.trans ((Below.refl _ _).alloc (by omega) _)⟩
  obtain ⟨K, rfl, hK⟩ := maskOkB_lt hv
  obtain ⟨n, hq⟩ := QOk.of (maskOkB_valid hv)
  have HE := Lib.hid (maskVars_yes hv)
  have HK := pow_le16 hq.len
  have hK16 : K < 16 := by omega
  clear hK HK
  go_wp2_with fail
  refine (l7Bits_any _ x K n _ (rQ.mono h hb3) hq hK16).mono ?_
  rintro e w4 ⟨rfl, z4⟩
  have s5 := z4.size
  have hb5 := on hb3 z4
  replace b_0 := bxc z4 b_0
  replace b_1 := bxc z4 b_1
  have hb16 : bitsOf x K < 16 := Nat.lt_of_lt_of_le (hq.bits_lt K) (pow_le16 hq.le)
  have HQ := Lib.hid hq
  clear hq
  go_wp2_with fail
  refine (l7List_any _ _ hb16).mono ?_
  rintro e w9 ⟨b, n9, c, rfl, ho, z9⟩
  have s6 := z9.size
  have hb6 := on hb5 z9
  replace b_0 := bxc z9 b_0
  replace b_1 := bxc z9 b_1
  go_wp2_with fail
  go_ret
  exact ⟨_, rfl, by rw [HE.out]; exact ho.own.mono (by omega) (Nat.le_refl _), hb6⟩

end Go.Proofs.YtpgfkjcekhifiaaGreat

namespace Go.Proofs.YtpgfkjcekhifiaaGreat

open Go.RowKit

set_option linter.unusedVariables false

set_option linter.unusedSimpArgs false

set_option synthInstance.maxSize 2000

set_option synthInstance.maxHeartbeats 400000

theorem own_empty' {B : Nat} {W : World} {g : Nat} (hB : B ≤ W.heap.size) (hg : W.heap.size = g) : OwnInts B (W.alloc (.cells #[] 3)) (.slice (some ⟨g, 0, none⟩) 0 0) 0 [] := by
  subst hg; exact own_empty hB

theorem wpList_app1g {B : Nat} {w0 W : World} {ops : Array Oper} {rest : List Oper} {o : Oper} {a : Act} {Q : Exit → Act → World → Prop}
    (s x : Operand) (v : Value) (n g : Nat) (xs : List Int) (u : Int)
    (hown : OwnInts B W v n xs) (hb : Below B w0 W) (hB : B ≤ W.heap.size) (hu : I64 u) (hn : n ≤ 1000000000000) (hg : W.heap.size = g)
    (hgd : o.guard = none) (ho : o.op = .call { callee := .builtin .append, args := #[s, x], argTypes := #[32, 32] })
    (hs : a.eval s = v) (hx : a.eval x = .slice (some ⟨g, 0, none⟩) 1 1)
    (h : ∀ v' w', OwnInts B w' v' (n + 1) (xs ++ [u]) → Below B w0 w' → B ≤ w'.heap.size → wpList Tryz.prog ops Q rest (a.put o.dst v') w') :
    wpList Tryz.prog ops Q (o :: rest) a (W.alloc (.cells #[.int .i64 u] 3)) := by
  subst hg
  exact wpList_app1 s x v n xs u hown hb hB hu hn hgd ho hs hx h

set_option maxHeartbeats 2000000 in
theorem variables_any (cs : List Value) (x : DQ) (K n : Nat) (w : World) (h : rQ.rep w cs x) (hq : QOk x n) (hK : K < 16) :
    Calls Tryz.prog 58 #[.agg cs.toArray, .int .i64 K] w fun e w' => ∃ u, e = .returned u ∧ Own oI w.heap.size w'.heap.size w' [u] (varsOf x K) ∧ Below w.heap.size w w' := by
  obtain ⟨ub, un, uc, rfl, hi, g1⟩ := rQ_open h
  clear h hi
  obtain ⟨i, xs⟩ := x
  simp only at g1
  have t0 := rS_sl g1
  have hl := t0.len
  have hn4 := hq.le
  have hl4 := hq.len
  have hcnt := hq.cnt
  simp only at hl4 hcnt
  subst hcnt
  have hun : un ≤ 4 := by omega
  have HQ := Lib.hid hq
  obtain ⟨M, hM⟩ : ∃ M, M = bitsOf ((n : Int), xs) K := ⟨_, rfl⟩
  have HV := Lib.hid (show bitsTo M n = varsOf ((n : Int), xs) K by rw [hq.varsOf K, hM])
  have HS := Lib.hid (show ∀ v, bitAt M v = someFrom K v 0 (xs.drop 0) by intro v; rw [hM]; exact hq.some K v)
  clear hq hl4 hM
  have hb0 : Below w.heap.size w w := Below.refl _ _
  go_enter Tryz.func58, Tryz.ntmps58
  obtain ⟨w1, hw1⟩ : ∃ W, W = w.alloc (.cells #[.int .i64 n, .slice ub un uc] 29) := ⟨_, rfl⟩
  have z1 : Below w.heap.size w w1 := by rw [hw1]; exact (Below.refl _ _).alloc (Nat.le_refl _) _
  have s1 : w1.heap.size = w.heap.size + 1 := by rw [hw1]; simp
  have hb1 := on hb0 z1
  have b_0 : w1.cell? ⟨w.heap.size, 0, none⟩ = some (.int .i64 n) := by rw [hw1]; exact box_cell (Below.refl _ _) rfl
  have b_1 : w1.cell? ⟨w.heap.size, 1, none⟩ = some (.slice ub un uc) := by rw [hw1]; exact box_cell (Below.refl _ _) rfl
  have raw1_b_0 := b_0
  have raw1_b_1 := b_1
  rw [hw1] at raw1_b_0 raw1_b_1
  go_wp2_with fail
  rw [← hw1]
  clear hw1
  clear raw1_b_0 raw1_b_1
  go_loopw [5, 6] (fun s k wr => ∃ j q : Nat, j ≤ n ∧ k = .int .i64 j ∧ OwnInts w1.heap.size wr s q (bitsTo M j) ∧ Below w1.heap.size w1 wr) (fun _ k _ => n - (intOf k).toNat)
  case atStart => exact ⟨0, 0, Nat.zero_le _, rfl, own_empty' (Nat.le_refl _) (by omega), (Below.refl _ _).alloc (Nat.le_refl _) _⟩
  case round =>
    obtain ⟨j, q, hj, rfl, hown, hdr⟩ := hrel
    obtain ⟨wo, rfl⟩ : ∃ W, W = wr := ⟨_, rfl⟩
    have hlc := hdr
    have s2 := hdr.size
    have hb2 := on hb1 hdr
    replace b_0 := bxc hdr b_0
    replace b_1 := bxc hdr b_1
    have hq4 : q ≤ 4 := by have := hown.len; have := bitsTo_len M j; omega
    by_cases hlt : j < n
    · go_wp2_with fail
      obtain ⟨a, cap, rfl, hqs, hqa⟩ := own_form hown.row
      go_loopw [5, 19] (fun s k wr => ∃ i' : Nat, i' ≤ un ∧ k = .int .i64 i' ∧ s = .slice a q cap ∧ Hid (bitAt M j = someFrom K j i' (xs.drop i')) ∧ Below wo.heap.size wo wr) (fun _ k _ => un - (intOf k).toNat)
      case atStart => exact ⟨0, Nat.zero_le _, rfl, rfl, HS.out j, Below.refl _ _⟩
      case round =>
        obtain ⟨i', hi, rfl, rfl, hE, hdr⟩ := hrel
        have hld := hdr
        have s3 := hdr.size
        have hb3 := on hb2 hdr
        replace b_0 := bxc hdr b_0
        replace b_1 := bxc hdr b_1
        replace hlc := on hlc hdr
        replace hown := hown.below hdr
        by_cases hlv : i' < un
        · obtain ⟨b1, o1, cs, x, rfl, hx, hr, hc⟩ := t0.at hlv
          obtain ⟨s, vs⟩ := x
          obtain ⟨vb, vn, vc, rfl, hs, g2⟩ := rA_open hr
          simp only at hs g2
          have e_lt : b1 < w.heap.size := cell_lt (hc 0 _ rfl)
          have e_0 : wr.cell? ⟨b1, o1 + i' * 2, none⟩ = some (.string s) := (hb3.cell (p := ⟨b1, o1 + i' * 2, none⟩) e_lt).trans (by have h9 := hc 0 _ rfl; rw [← Nat.add_assoc] at h9; exact h9)
          have e_1 : wr.cell? ⟨b1, o1 + i' * 2 + 1, none⟩ = some (.slice vb vn vc) := (hb3.cell (p := ⟨b1, o1 + i' * 2 + 1, none⟩) e_lt).trans (by have h9 := hc 1 _ rfl; rw [← Nat.add_assoc] at h9; exact h9)
          have HA := Lib.hid (hE.out.trans (someFrom_at hx.out))
          clear hc t0 hr hl hx hE HV HS
          simp only at HA
          obtain ⟨w4, hw4⟩ : ∃ W, W = wr.alloc (.cells #[.string s, .slice vb vn vc] 48) := ⟨_, rfl⟩
          have z4 : Below wr.heap.size wr w4 := by rw [hw4]; exact (Below.refl _ _).alloc (Nat.le_refl _) _
          have s4 : w4.heap.size = wr.heap.size + 1 := by rw [hw4]; simp
          have hb4 := on hb3 z4
          have old4_b_0 := b_0
          have old4_b_1 := b_1
          have old4_e_0 := e_0
          have old4_e_1 := e_1
          replace b_0 := bxc z4 b_0
          replace b_1 := bxc z4 b_1
          replace hlc := on hlc z4
          replace hown := hown.below z4
          replace hld := on hld z4
          replace e_0 := bxc z4 e_0
          replace e_1 := bxc z4 e_1
          have p_0 : w4.cell? ⟨wr.heap.size, 0, none⟩ = some (.string s) := by rw [hw4]; exact box_cell (Below.refl _ _) rfl
          have p_1 : w4.cell? ⟨wr.heap.size, 1, none⟩ = some (.slice vb vn vc) := by rw [hw4]; exact box_cell (Below.refl _ _) rfl
          have raw4_b_0 := b_0
          have raw4_b_1 := b_1
          have raw4_e_0 := e_0
          have raw4_e_1 := e_1
          have raw4_p_0 := p_0
          have raw4_p_1 := p_1
          rw [hw4] at raw4_b_0 raw4_b_1 raw4_e_0 raw4_e_1 raw4_p_0 raw4_p_1
          have hbt := bit_test K i' (by omega)
          have hlt2 : (j : Int) < n := by omega
          cases hb : bitAt K i' with
          | true =>
            rw [hb] at HA hbt
            have i0 := (rI_ints g2).below hb4
            clear hb
            go_wp2_with fail
            rw [← hw4]
            clear hw4
            clear old4_b_0 old4_b_1 old4_e_0 old4_e_1 raw4_b_0 raw4_b_1 raw4_e_0 raw4_e_1 raw4_p_0 raw4_p_1
            refine (contains_any _ _ _ _ _ _ i0).mono ?_
            rintro e w' ⟨rfl, rfl⟩
            obtain ⟨t, ht⟩ : ∃ t, t = has vs (j : Int) := ⟨_, rfl⟩
            rw [← ht] at HA ⊢
            clear ht i0
            cases t with
            | true =>
              have HB := Lib.hid (bitsTo_yes (show bitAt M j = true by rw [HA.out]; simp))
              have hsz := hlc.size
              go_wp2_with ((at_builtin; refine wpList_app1g _ _ _ _ _ _ _ hown hlc hsz ⟨by omega, by omega⟩ (by omega) (by omega) rfl rfl rfl rfl ?_; intro v' w9 hown' hb' hsz'))
              rw [← HB.out] at hown'
              go_roundw
              case rel => exact ⟨j + 1, q + 1, by omega, by go_num, hown', hb'⟩
              case measure => simp [intOf]; omega
            | false =>
              have HE := Lib.hid (show bitAt M j = someFrom K j (i' + 1) (xs.drop (i' + 1)) by rw [HA.out]; simp)
              go_wp2_with fail
              go_roundw
              case rel => exact ⟨i' + 1, by omega, by go_num, rfl, HE.out, hld⟩
              case measure => simp [intOf]; omega
          | false =>
            rw [hb] at HA hbt
            have HE := Lib.hid (show bitAt M j = someFrom K j (i' + 1) (xs.drop (i' + 1)) by rw [HA.out]; simp)
            clear hb HA
            go_wp2_with fail
            rw [← hw4]
            clear hw4
            clear old4_b_0 old4_b_1 old4_e_0 old4_e_1 raw4_b_0 raw4_b_1 raw4_e_0 raw4_e_1 raw4_p_0 raw4_p_1
            go_roundw
            case rel => exact ⟨i' + 1, by omega, by go_num, rfl, HE.out, hld⟩
            case measure => simp [intOf]; omega
        · rw [← bitsTo_no (hE.out.trans (someFrom_end (by omega)))] at hown
          have HO := Lib.hid hown
          clear t0 hl hE hown
          go_wp2_with fail
          go_roundw
          case rel => exact ⟨j + 1, q, by omega, by go_num, HO.out, hlc⟩
          case measure => simp [intOf]; omega
    · obtain rfl : j = n := by omega
      obtain ⟨a, cap, rfl, _⟩ := own_form hown.row
      rw [HV.out] at hown
      have HO := Lib.hid (show Own oI w.heap.size wo.heap.size wo [.slice a q cap] _ from hown.own.mono (by omega) (Nat.le_refl _))
      clear t0 hl hown
      go_wp2_with fail
      go_ret
      exact ⟨_, rfl, HO.out, hb2⟩

set_option maxHeartbeats 1000000 in
theorem both_any (u v : Value) (xs ys : List Int) (w : World) (h : rI.rep w [u] xs) (h' : rI.rep w [v] ys) (hn : xs.length ≤ 1048576) :
    Calls Tryz.prog 116 #[u, v] w fun e w' => ∃ u, e = .returned u ∧ Own oI w.heap.size w'.heap.size w' [u] (both xs ys) ∧ Below w.heap.size w w' := by
  obtain ⟨a, cap, rfl, _, _, hi⟩ := rI_open h
  obtain ⟨a', cap', rfl, _, _, hi'⟩ := rI_open h'
  clear h h'
  obtain ⟨n, hl⟩ : ∃ n, xs.length = n := ⟨_, rfl⟩
  rw [hl] at hi hn ⊢
  go_enter Tryz.func116, Tryz.ntmps116
  go_wp2
  go_loopw [5, 11] (fun v i wr => ∃ (j : Nat), j ≤ n ∧ i = .int .i64 j ∧ ∃ q, OwnInts w.heap.size wr v q (both (xs.take j) ys) ∧ Below w.heap.size w wr) (fun _ i _ => n - (intOf i).toNat)
  case atStart => exact ⟨0, Nat.zero_le _, rfl, 0, by rw [List.take_zero]; exact own_empty (Nat.le_refl _), (Below.refl _ _).alloc (Nat.le_refl _) _⟩
  case round =>
    obtain ⟨j, hj, rfl, q, hown, hbl⟩ := hrel
    have hsz := hbl.size
    replace hi := hi.below hbl
    replace hi' := hi'.below hbl
    have hq : q ≤ 1048576 := by have := hown.len; have := both_len (xs.take j) ys; have : (xs.take j).length ≤ j := List.length_take_le _ _; omega
    by_cases hlt : j < n
    · obtain ⟨b1, off, x, rfl, hc, hx, hx1, hx2⟩ := hi.get hlt
      have hcall := contains_any _ _ cap' _ x _ hi'
      obtain ⟨t, ht⟩ : ∃ t, t = has ys x := ⟨_, rfl⟩
      rw [← ht] at hcall
      have HC := Lib.hid hcall
      clear hcall
      cases t with
      | true =>
        have HB := Lib.hid (both_yes (show j < xs.length by omega) hx.out ht.symm)
        clear ht hi hl
        go_wp2_with (first
          | (go_at_call 86; refine (HC.out).mono ?_; rintro e w' ⟨rfl, rfl⟩)
          | (at_builtin; refine wpList_app1 _ _ _ _ _ _ hown hbl hsz ⟨by omega, by omega⟩ (by omega) rfl rfl rfl rfl ?_; intro v' w1 hown' hb' hsz'))
        rw [← HB.out] at hown'
        go_roundw
        case rel => exact ⟨j + 1, by omega, by go_num, q + 1, hown', hb'⟩
        case measure => simp [intOf]; omega
      | false =>
        rw [← both_no (show j < xs.length by omega) hx.out ht.symm] at hown
        have HO := Lib.hid hown
        clear ht hi hl hown
        go_wp2_with (first
          | (go_at_call 86; refine (HC.out).mono ?_; rintro e w' ⟨rfl, rfl⟩))
        go_roundw
        case rel => exact ⟨j + 1, by omega, by go_num, q, HO.out, hbl⟩
        case measure => simp [intOf]; omega
    · obtain rfl : j = n := by omega
      obtain ⟨a', cap2, rfl, _⟩ := own_form hown.row
      rw [both_end (by omega)] at hown
      have HO := Lib.hid hown
      clear hown hi hi' hl
      go_wp2
      go_ret
      exact ⟨_, rfl, HO.out.own, hbl⟩

end Go.Proofs.YtpgfkjcekhifiaaGreat

namespace Go.Proofs.YtpgfkjcekhifiaaGreat

open Go.RowKit

set_option linter.unusedVariables false

set_option linter.unusedSimpArgs false

set_option synthInstance.maxSize 2000

set_option synthInstance.maxHeartbeats 400000

set_option maxHeartbeats 2000000 in
theorem neighbors_any (cs : List Value) (x : DQ) (K n : Nat) (w : World) (h : rQ.rep w cs x) (hq : QOk x n) (hK : K < 16) :
    Calls Tryz.prog 101 #[.agg cs.toArray, .int .i64 K] w fun e w' => e = .returned (.int .i64 (near x K)) ∧ Below w.heap.size w w' := by
  obtain ⟨ub, un, uc, rfl, hi, g1⟩ := rQ_open h
  clear hi
  have t0 := rS_sl g1
  have hl := t0.len
  have hl4 := hq.len
  have hun : un ≤ 4 := by omega
  have HQ := Lib.hid hq
  have HB := Lib.hid (show near x K = nearFrom K (bitsOf x K) 0 0 (x.2.drop 0) by simp [near])
  clear hl4
  have hb0 : Below w.heap.size w w := Below.refl _ _
  go_enter Tryz.func101, Tryz.ntmps101
  obtain ⟨w1, hw1⟩ : ∃ W, W = w.alloc (.cells #[.int .i64 x.1, .slice ub un uc] 29) := ⟨_, rfl⟩
  have z1 : Below w.heap.size w w1 := by rw [hw1]; exact (Below.refl _ _).alloc (Nat.le_refl _) _
  have s1 : w1.heap.size = w.heap.size + 1 := by rw [hw1]; simp
  have hb1 := on hb0 z1
  have b_0 : w1.cell? ⟨w.heap.size, 0, none⟩ = some (.int .i64 x.1) := by rw [hw1]; exact box_cell (Below.refl _ _) rfl
  have b_1 : w1.cell? ⟨w.heap.size, 1, none⟩ = some (.slice ub un uc) := by rw [hw1]; exact box_cell (Below.refl _ _) rfl
  have raw1_b_0 := b_0
  have raw1_b_1 := b_1
  rw [hw1] at raw1_b_0 raw1_b_1
  go_wp2_with fail
  rw [← hw1]
  clear hw1
  clear raw1_b_0 raw1_b_1
  refine (variables_any _ x K n _ (rQ.mono h hb1) hq hK).mono ?_
  rintro e w9 ⟨u, rfl, ho, z9⟩
  obtain ⟨vb9, vn9, vc9, rfl⟩ := oI_form1 ho
  have s2 := z9.size
  have hb2 := on hb1 z9
  replace b_0 := bxc z9 b_0
  replace b_1 := bxc z9 b_1
  clear hq
  go_wp2_with fail
  go_loopw [6, 15] (fun s k wr => ∃ j m : Nat, j ≤ un ∧ m < 2 ^ un ∧ k = .int .i64 j ∧ s = .int .i64 m ∧ Hid (near x K = nearFrom K (bitsOf x K) m j (x.2.drop j)) ∧ Below w9.heap.size w9 wr) (fun _ k _ => un - (intOf k).toNat)
  case atStart => exact ⟨0, 0, Nat.zero_le _, Nat.two_pow_pos _, rfl, rfl, HB.out, Below.refl _ _⟩
  case round =>
    obtain ⟨j, m, hj, hm, rfl, rfl, hE, hdr⟩ := hrel
    obtain ⟨wo, rfl⟩ : ∃ W, W = wr := ⟨_, rfl⟩
    have hlc := hdr
    have s3 := hdr.size
    have hb3 := on hb2 hdr
    replace b_0 := bxc hdr b_0
    replace b_1 := bxc hdr b_1
    replace ho := ho.below hdr (by omega)
    have hm16 := pow_le16 hun
    by_cases hlt : j < un
    · obtain ⟨b1, o1, cs, y, rfl, hx, hr, hc⟩ := t0.at hlt
      obtain ⟨s, vs⟩ := y
      obtain ⟨vb, vn, vc, rfl, hs, g2⟩ := rA_open hr
      simp only at hs g2
      have e_lt : b1 < w.heap.size := cell_lt (hc 0 _ rfl)
      have e_0 : wo.cell? ⟨b1, o1 + j * 2, none⟩ = some (.string s) := (hb3.cell (p := ⟨b1, o1 + j * 2, none⟩) e_lt).trans (by have h9 := hc 0 _ rfl; rw [← Nat.add_assoc] at h9; exact h9)
      have e_1 : wo.cell? ⟨b1, o1 + j * 2 + 1, none⟩ = some (.slice vb vn vc) := (hb3.cell (p := ⟨b1, o1 + j * 2 + 1, none⟩) e_lt).trans (by have h9 := hc 1 _ rfl; rw [← Nat.add_assoc] at h9; exact h9)
      have HA := Lib.hid (hE.out.trans (nearFrom_at hx.out))
      have HX := Lib.hid (List.mem_of_getElem? hx.out)
      have HV := Lib.hid (both_pos HQ.out HX.out K)
      have HVL := Lib.hid (HQ.out.vlen _ HX.out)
      clear hc t0 hr hl hx hE HB
      simp only at HA HV HVL
      obtain ⟨w4, hw4⟩ : ∃ W, W = wo.alloc (.cells #[.string s, .slice vb vn vc] 48) := ⟨_, rfl⟩
      have z4 : Below wo.heap.size wo w4 := by rw [hw4]; exact (Below.refl _ _).alloc (Nat.le_refl _) _
      have s4 : w4.heap.size = wo.heap.size + 1 := by rw [hw4]; simp
      have hb4 := on hb3 z4
      have old4_b_0 := b_0
      have old4_b_1 := b_1
      have old4_e_0 := e_0
      have old4_e_1 := e_1
      replace b_0 := bxc z4 b_0
      replace b_1 := bxc z4 b_1
      replace ho := ho.below z4 (by omega)
      replace hlc := on hlc z4
      replace e_0 := bxc z4 e_0
      replace e_1 := bxc z4 e_1
      have p_0 : w4.cell? ⟨wo.heap.size, 0, none⟩ = some (.string s) := by rw [hw4]; exact box_cell (Below.refl _ _) rfl
      have p_1 : w4.cell? ⟨wo.heap.size, 1, none⟩ = some (.slice vb vn vc) := by rw [hw4]; exact box_cell (Below.refl _ _) rfl
      have raw4_b_0 := b_0
      have raw4_b_1 := b_1
      have raw4_e_0 := e_0
      have raw4_e_1 := e_1
      have raw4_p_0 := p_0
      have raw4_p_1 := p_1
      rw [hw4] at raw4_b_0 raw4_b_1 raw4_e_0 raw4_e_1 raw4_p_0 raw4_p_1
      have hbt := bit_test0 K j (by omega)
      cases hb : bitAt K j with
      | true =>
        rw [hb] at HA hbt
        replace HA : Hid (near x K = nearFrom K (bitsOf x K) m (j + 1) (x.2.drop (j + 1))) := Lib.hid (by rw [HA.out]; simp)
        simp only [Bool.not_true] at hbt
        clear hb
        go_wp2_with fail
        rw [← hw4]
        clear hw4
        clear old4_b_0 old4_b_1 old4_e_0 old4_e_1 raw4_b_0 raw4_b_1 raw4_e_0 raw4_e_1 raw4_p_0 raw4_p_1
        go_roundw
        case rel => exact ⟨j + 1, m, by omega, hm, by go_num, rfl, HA.out, hlc⟩
        case measure => simp [intOf]; omega
      | false =>
        rw [hb] at HA hbt
        simp only [Bool.not_false, Bool.true_and] at HA hbt
        clear hb
        go_wp2_with fail
        rw [← hw4]
        clear hw4
        clear old4_b_0 old4_b_1 old4_e_0 old4_e_1 raw4_b_0 raw4_b_1 raw4_e_0 raw4_e_1 raw4_p_0 raw4_p_1
        refine (both_any _ _ vs (varsOf x K) _ (rI.mono g2 hb4) (ho.rd reads_I) (by have := HVL.out; omega)).mono ?_
        rintro e w8 ⟨u, rfl, ho2, z8⟩
        obtain ⟨vb8, vn8, vc8, rfl⟩ := oI_form1 ho2
        have hv8 := (rI_ints (ho2.rd reads_I)).len
        have s5 := z8.size
        have hb5 := on hb4 z8
        replace b_0 := bxc z8 b_0
        replace b_1 := bxc z8 b_1
        replace ho := ho.below z8 (by omega)
        replace hlc := on hlc z8
        replace e_0 := bxc z8 e_0
        replace e_1 := bxc z8 e_1
        replace p_0 := bxc z8 p_0
        replace p_1 := bxc z8 p_1
        obtain ⟨t, ht⟩ : ∃ t, t = decide (vbits 0 vs &&& bitsOf x K ≠ 0) := ⟨_, rfl⟩
        have hd : decide (0 < vn8) = t := by rw [ht, ← HV.out, hv8]
        rw [← ht] at HA
        have HT := Lib.hid ht
        clear ht hv8 ho2
        cases t with
        | true =>
          replace HA : Hid (near x K = nearFrom K (bitsOf x K) (m ||| 2 ^ j) (j + 1) (x.2.drop (j + 1))) := Lib.hid (by rw [HA.out]; simp)
          have hmo := or_lt hm hlt
          go_wp2_with fail
          go_roundw
          case rel => exact ⟨j + 1, m ||| 2 ^ j, by omega, hmo, by go_num, by show Value.int _ _ = _; rw [or_pow (by omega) (by omega)], HA.out, hlc⟩
          case measure => simp [intOf]; omega
        | false =>
          replace HA : Hid (near x K = nearFrom K (bitsOf x K) m (j + 1) (x.2.drop (j + 1))) := Lib.hid (by rw [HA.out]; simp)
          go_wp2_with fail
          go_roundw
          case rel => exact ⟨j + 1, m, by omega, hm, by go_num, rfl, HA.out, hlc⟩
          case measure => simp [intOf]; omega
    · have HE := Lib.hid (hE.out.trans (nearFrom_end (by omega)))
      clear t0 hl hE HB ho
      go_wp2_with fail
      go_ret
      exact ⟨ret_int (by rw [HE.out]), hb3⟩

set_option maxHeartbeats 2000000 in
theorem l8Near_any (cs : List Value) (x : DQ) (K n : Nat) (w : World) (h : rQ.rep w cs x) (hq : QOk x n) (hK : K < 16) :
    Calls Tryz.prog 102 #[.agg cs.toArray, .int .i64 K] w fun e w' => e = .returned (.int .i64 (near x K)) ∧ Below w.heap.size w w' := by
  obtain ⟨ub, un, uc, rfl, hi, g1⟩ := rQ_open h
  clear hi
  have t0 := rS_sl g1
  have hl := t0.len
  have hl4 := hq.len
  have hun : un ≤ 4 := by omega
  have HQ := Lib.hid hq
  have HB := Lib.hid (show near x K = nearFrom K (bitsOf x K) 0 0 (x.2.drop 0) by simp [near])
  have hB16 : bitsOf x K < 16 := Nat.lt_of_lt_of_le (hq.bits_lt K) (pow_le16 hq.le)
  clear hl4
  have hb0 : Below w.heap.size w w := Below.refl _ _
  go_enter Tryz.func102, Tryz.ntmps102
  obtain ⟨w1, hw1⟩ : ∃ W, W = w.alloc (.cells #[.int .i64 x.1, .slice ub un uc] 29) := ⟨_, rfl⟩
  have z1 : Below w.heap.size w w1 := by rw [hw1]; exact (Below.refl _ _).alloc (Nat.le_refl _) _
  have s1 : w1.heap.size = w.heap.size + 1 := by rw [hw1]; simp
  have hb1 := on hb0 z1
  have b_0 : w1.cell? ⟨w.heap.size, 0, none⟩ = some (.int .i64 x.1) := by rw [hw1]; exact box_cell (Below.refl _ _) rfl
  have b_1 : w1.cell? ⟨w.heap.size, 1, none⟩ = some (.slice ub un uc) := by rw [hw1]; exact box_cell (Below.refl _ _) rfl
  have raw1_b_0 := b_0
  have raw1_b_1 := b_1
  rw [hw1] at raw1_b_0 raw1_b_1
  go_wp2_with fail
  rw [← hw1]
  clear hw1
  clear raw1_b_0 raw1_b_1
  refine (l7Bits_any _ x K n _ (rQ.mono h hb1) hq hK).mono ?_
  rintro e w2 ⟨rfl, z2⟩
  have s3 := z2.size
  have hb3 := on hb1 z2
  replace b_0 := bxc z2 b_0
  replace b_1 := bxc z2 b_1
  clear hq
  obtain ⟨B, hB⟩ : ∃ B, B = bitsOf x K := ⟨_, rfl⟩
  rw [← hB] at HB hB16 ⊢
  clear hB
  go_wp2_with fail
  go_loopw [5, 7] (fun s k wr => ∃ j m : Nat, j ≤ un ∧ m < 2 ^ un ∧ k = .int .i64 j ∧ s = .int .i64 m ∧ Hid (near x K = nearFrom K B m j (x.2.drop j)) ∧ Below w2.heap.size w2 wr) (fun _ k _ => un - (intOf k).toNat)
  case atStart => exact ⟨0, 0, Nat.zero_le _, Nat.two_pow_pos _, rfl, rfl, HB.out, Below.refl _ _⟩
  case round =>
    obtain ⟨j, m, hj, hm, rfl, rfl, hE, hdr⟩ := hrel
    obtain ⟨wo, rfl⟩ : ∃ W, W = wr := ⟨_, rfl⟩
    have hlc := hdr
    have s4 := hdr.size
    have hb4 := on hb3 hdr
    replace b_0 := bxc hdr b_0
    replace b_1 := bxc hdr b_1
    have hm16 := pow_le16 hun
    by_cases hlt : j < un
    · obtain ⟨y, hy⟩ : ∃ y, x.2[j]? = some y := ⟨_, List.getElem?_eq_getElem (by omega)⟩
      have HA := Lib.hid (hE.out.trans (nearFrom_at hy))
      have HP := Lib.hid (bitsOf_pow hy)
      have hP16 : bitsOf x (2 ^ j) < 16 := Nat.lt_of_lt_of_le (HQ.out.bits_lt _) (pow_le16 HQ.out.le)
      clear t0 hl hE HB hy
      have hbt := bit_test0 K j (by omega)
      cases hb : bitAt K j with
      | true =>
        rw [hb] at HA hbt
        replace HA : Hid (near x K = nearFrom K B m (j + 1) (x.2.drop (j + 1))) := Lib.hid (by rw [HA.out]; simp)
        simp only [Bool.not_true] at hbt
        clear hb
        go_wp2_with fail
        go_quiet (fail)
        go_wp2_with fail
        go_roundw
        case rel => exact ⟨j + 1, m, by omega, hm, by go_num, rfl, HA.out, hlc.trans (Drew.below ⟨_, rfl⟩ _)⟩
        case measure => simp [intOf]; omega
      | false =>
        rw [hb] at HA hbt
        simp only [Bool.not_false, Bool.true_and] at HA hbt
        rw [← HP.out] at HA
        clear hb HP
        have h2j : 2 ^ j < 16 := Nat.lt_of_lt_of_le (Nat.pow_lt_pow_right (by decide) hlt) hm16
        have hw1 := wrap_pow (show j ≤ 16 by omega)
        obtain ⟨J, hJ⟩ : ∃ J, J = 2 ^ j := ⟨_, rfl⟩
        obtain ⟨C, hC⟩ : ∃ C, C = bitsOf x (2 ^ j) := ⟨_, rfl⟩
        have hJ16 : J < 16 := by rw [hJ]; exact h2j
        have hcall := fun W (hW : rQ.rep W [.int .i64 x.1, .slice ub un uc] x) => l7Bits_any _ x J n W hW HQ.out hJ16
        rw [← hC] at HA hP16
        rw [← hJ] at hC hw1
        clear h2j
        have hw2 := hw1
        rw [← IntWalk.i64_left] at hw2
        rw [← hC] at hcall
        have hba := bits_and_nat C B (by omega) (by omega)
        obtain ⟨t, ht⟩ : ∃ t, t = decide (C &&& B ≠ 0) := ⟨_, rfl⟩
        have hne : (((C &&& B : Nat) : Int) != 0) = t := by
          rw [ht, Bool.eq_iff_iff]
          simp
        rw [← ht] at HA
        have HC := Lib.hid hcall
        have HJ := Lib.hid hJ
        clear hcall ht hC hJ
        go_wp2_with fail
        go_region_held3 (fun W => W.cell? ⟨w.heap.size, 0, none⟩ = some (.int .i64 x.1) ∧ W.cell? ⟨w.heap.size, 1, none⟩ = some (.slice ub un uc)) (first | exact ⟨b_0, b_1⟩ | assumption) (first | (go_at_call 65; (with_reducible refine (HC.out _ (rQ.mono h hb4.drew)).mono ?_); rintro e w5 ⟨rfl, z5⟩; replace z5 : Below wo.heap.size wo w5 := on (Below.refl _ _).drew z5; have sz5 := z5.size; have hS5 := (⟨(z5.cell (p := ⟨w.heap.size, 0, none⟩) (by simp only []; omega)).trans b_0, (z5.cell (p := ⟨w.heap.size, 1, none⟩) (by simp only []; omega)).trans b_1⟩ : (fun W => W.cell? ⟨w.heap.size, 0, none⟩ = some (.int .i64 x.1) ∧ W.cell? ⟨w.heap.size, 1, none⟩ = some (.slice ub un uc)) w5); have hx5 := on hb4 z5))
        replace z5 : Below wo.heap.size wo w5 := z5
        clear hS5 hx5
        have s6 := z5.size
        have hb6 := on hb4 z5
        replace b_0 := bxc z5 b_0
        replace b_1 := bxc z5 b_1
        replace hlc := on hlc z5
        clear hw2
        cases t with
        | true =>
          replace HA : Hid (near x K = nearFrom K B (m ||| 2 ^ j) (j + 1) (x.2.drop (j + 1))) := Lib.hid (by rw [HA.out]; simp)
          have hmo := or_lt hm hlt
          clear hba hne
          go_wp2_with fail
          go_roundw
          case rel => exact ⟨j + 1, m ||| 2 ^ j, by omega, hmo, by go_num, by show Value.int _ _ = _; rw [← hw1, or_pow (by omega) (by omega)], HA.out, hlc⟩
          case measure => simp [intOf]; omega
        | false =>
          replace HA : Hid (near x K = nearFrom K B m (j + 1) (x.2.drop (j + 1))) := Lib.hid (by rw [HA.out]; simp)
          clear hba hne hw1
          go_wp2_with fail
          go_roundw
          case rel => exact ⟨j + 1, m, by omega, hm, by go_num, rfl, HA.out, hlc⟩
          case measure => simp [intOf]; omega
    · have HE := Lib.hid (hE.out.trans (nearFrom_end (by omega)))
      clear t0 hl hE HB
      go_wp2_with fail
      go_ret
      exact ⟨ret_int (by rw [HE.out]), hb4⟩

end Go.Proofs.YtpgfkjcekhifiaaGreat

namespace Go.Proofs.YtpgfkjcekhifiaaGreat

open Go.RowKit

set_option linter.unusedVariables false

set_option linter.unusedSimpArgs false

set_option synthInstance.maxSize 2000

set_option synthInstance.maxHeartbeats 400000

theorem low_int : ∀ K, K < 16 → bits .and .i64 ((K : Nat) : Int) (-((K : Nat) : Int)) = ((lowB K : Nat) : Int) := by decide +kernel

theorem low_zero : ∀ K : Nat, K < 16 → K ≠ 0 → ((K : Int) == 0) = false := by
  intro K _ h; rw [beq_eq_false_iff_ne]; omega

set_option maxHeartbeats 2000000 in
theorem connected_any (cs : List Value) (x : DQ) (K n : Nat) (w : World) (h : rQ.rep w cs x) (hq : QOk x n) (hK : K < 2 ^ x.2.length) :
    Calls Tryz.prog 77 #[.agg cs.toArray, .int .i64 K] w fun e w' => e = .returned (.bool (conn x K)) ∧ Below w.heap.size w w' := by
  obtain ⟨ub, un, uc, rfl⟩ := rQ_form h
  have hb0 : Below w.heap.size w w := Below.refl _ _
  have hl4 := hq.len
  have hK16 : K < 16 := Nat.lt_of_lt_of_le hK (pow_le16 hl4)
  have HQ := Lib.hid hq
  have HK := Lib.hid hK
  clear hq hK
  by_cases h0 : K = 0
  · subst h0
    have HE := Lib.hid (show conn x 0 = false by simp [conn])
    go_enter Tryz.func77, Tryz.ntmps77
    obtain ⟨w1, hw1⟩ : ∃ W, W = w.alloc (.cells #[.int .i64 x.1, .slice ub un uc] 29) := ⟨_, rfl⟩
    have z1 : Below w.heap.size w w1 := by rw [hw1]; exact (Below.refl _ _).alloc (Nat.le_refl _) _
    have s1 : w1.heap.size = w.heap.size + 1 := by rw [hw1]; simp
    have hb1 := on hb0 z1
    have b_0 : w1.cell? ⟨w.heap.size, 0, none⟩ = some (.int .i64 x.1) := by rw [hw1]; exact box_cell (Below.refl _ _) rfl
    have b_1 : w1.cell? ⟨w.heap.size, 1, none⟩ = some (.slice ub un uc) := by rw [hw1]; exact box_cell (Below.refl _ _) rfl
    have raw1_b_0 := b_0
    have raw1_b_1 := b_1
    rw [hw1] at raw1_b_0 raw1_b_1
    go_wp2_with fail
    go_ret
    exact ⟨ret_bool HE.out.symm, by first | exact hb1 | (rw [hw1] at hb1; exact hb1)⟩
  have HC := Lib.hid (show conn x K = joined x K by simp [conn, h0])
  have hz := low_zero K hK16 h0
  have hlow := low_int K hK16
  obtain ⟨l1, l2, l3⟩ := low_facts K hK16
  have l4 := l3 h0
  obtain ⟨L, hL⟩ : ∃ L, L = lowB K := ⟨_, rfl⟩
  rw [← hL] at hlow l1 l2 l4
  have HJ := Lib.hid (show joined x K = decide (iterM x K x.2.length L = K) by rw [joined, hL])
  have L1 := Lib.hid l1
  have L4 := Lib.hid l4
  clear h0 l1 l3 l4 hL
  have hlp := HQ.out.lpos
  go_enter Tryz.func77, Tryz.ntmps77
  obtain ⟨w2, hw2⟩ : ∃ W, W = w.alloc (.cells #[.int .i64 x.1, .slice ub un uc] 29) := ⟨_, rfl⟩
  have z2 : Below w.heap.size w w2 := by rw [hw2]; exact (Below.refl _ _).alloc (Nat.le_refl _) _
  have s2 : w2.heap.size = w.heap.size + 1 := by rw [hw2]; simp
  have hb2 := on hb0 z2
  have b_0 : w2.cell? ⟨w.heap.size, 0, none⟩ = some (.int .i64 x.1) := by rw [hw2]; exact box_cell (Below.refl _ _) rfl
  have b_1 : w2.cell? ⟨w.heap.size, 1, none⟩ = some (.slice ub un uc) := by rw [hw2]; exact box_cell (Below.refl _ _) rfl
  have raw2_b_0 := b_0
  have raw2_b_1 := b_1
  rw [hw2] at raw2_b_0 raw2_b_1
  go_wp2_with fail
  rw [← hw2]
  clear hw2
  clear raw2_b_0 raw2_b_1
  clear hlow
  go_loopw [5, 6] (fun s _ wr => ∃ g i : Nat, g < 16 ∧ i + 1 ≤ x.2.length ∧ s = .int .i64 g ∧ Hid (g ||| K = K ∧ i + 1 ≤ pc g) ∧ Hid (iterM x K x.2.length L = iterM x K (x.2.length - i) g) ∧ Below w2.heap.size w2 wr) (fun s _ _ => 16 - (intOf s).toNat)
  case atStart => exact ⟨L, 0, l2, hlp, rfl, Lib.hid ⟨L1.out, by rw [L4.out]; exact Nat.le_refl _⟩, rfl, Below.refl _ _⟩
  case round =>
    obtain ⟨g, i, hg, hi, rfl, hP, hE, hdr⟩ := hrel
    have hlc := hdr
    have s3 := hdr.size
    have hb3 := on hb2 hdr
    replace b_0 := bxc hdr b_0
    replace b_1 := bxc hdr b_1
    go_wp2_with fail
    refine (neighbors_any _ x g n _ (rQ.mono h hb3) HQ.out hg).mono ?_
    rintro e w4 ⟨rfl, z4⟩
    have s5 := z4.size
    have hb5 := on hb3 z4
    replace b_0 := bxc z4 b_0
    replace b_1 := bxc z4 b_1
    replace hlc := on hlc z4
    obtain ⟨N, hN⟩ : ∃ N, N = near x g := ⟨_, rfl⟩
    rw [← hN]
    have hN16 : N < 16 := by rw [hN]; exact Nat.lt_of_lt_of_le (near_lt x g) (pow_le16 hl4)
    have hS : stepM x K g = g ||| (N &&& K) := by rw [hN]; rfl
    have hS16 : stepM x K g < 16 := stepM_lt hl4 hg
    have ha := bits_and_nat N K (by omega) (by omega)
    have hNK : N &&& K < 16 := Nat.lt_of_le_of_lt Nat.and_le_left hN16
    have ho := bits_or_nat g (N &&& K) (by omega) (by omega)
    rw [← hS] at ho
    obtain ⟨S, hSS⟩ : ∃ S, S = stepM x K g := ⟨_, rfl⟩
    rw [← hSS] at ho hS16
    have HS := Lib.hid hSS
    clear hS hN hSS hNK
    by_cases hst : S = g
    · have HE := Lib.hid (show decide ((g : Int) = (K : Int)) = conn x K by
        rw [HC.out, HJ.out, hE.out, iterM_fix (HS.out.symm.trans hst)]
        rw [Bool.eq_iff_iff]; simp only [decide_eq_true_eq]; omega)
      rw [hst] at ho
      clear hst
      go_wp2_with fail
      go_ret
      exact ⟨ret_bool (by rw [← HE.out]; rfl), hb5⟩
    · have hroom := step_room hl4 hg HK.out hP.out.1 hP.out.2 (fun e => hst (HS.out.trans e))
      rw [← HS.out] at hroom
      have HP2 : Hid (S ||| K = K ∧ (i + 1) + 1 ≤ pc S) := Lib.hid ⟨by rw [HS.out]; exact stepM_sub hl4 hg hK16 hP.out.1, by omega⟩
      have HE2 : Hid (iterM x K x.2.length L = iterM x K (x.2.length - (i + 1)) S) := Lib.hid (by
        rw [hE.out, show x.2.length - i = (x.2.length - (i + 1)) + 1 by omega, iterM, ← HS.out])
      have hr2 := hroom.2
      have hgS : g < S := by
        have h1 : g ≤ S := by rw [HS.out]; exact Nat.left_le_or
        omega
      have hne : ((S : Int) == (g : Int)) = false := by rw [beq_eq_false_iff_ne]; omega
      clear hroom hst
      go_wp2_with fail
      go_roundw
      case rel => exact ⟨S, i + 1, hS16, by omega, rfl, HP2, HE2, hlc⟩
      case measure => simp [intOf]; omega

set_option maxHeartbeats 2000000 in
theorem joinedQ_any (cs : List Value) (x : DQ) (K n : Nat) (w : World) (h : rQ.rep w cs x) (hq : QOk x n) (hK : K < 2 ^ x.2.length) :
    Calls Tryz.prog 78 #[.agg cs.toArray, .int .i64 K] w fun e w' => e = .returned (.bool (joined x K)) ∧ Below w.heap.size w w' := by
  obtain ⟨ub, un, uc, rfl, hi, g1⟩ := rQ_open h
  have hl := (rS_sl g1).len
  clear hi g1
  have hb0 : Below w.heap.size w w := Below.refl _ _
  have hl4 := hq.len
  have hK16 : K < 16 := Nat.lt_of_lt_of_le hK (pow_le16 hl4)
  have HQ := Lib.hid hq
  clear hq hK
  have hlow := low_int K hK16
  obtain ⟨l1, l2, l3⟩ := low_facts K hK16
  obtain ⟨L, hL⟩ : ∃ L, L = lowB K := ⟨_, rfl⟩
  rw [← hL] at hlow l2
  have HJ := Lib.hid (show joined x K = decide (iterM x K un L = K) by rw [joined, hL, hl])
  have hun : un ≤ 4 := by omega
  clear l1 l3 hL hl
  go_enter Tryz.func78, Tryz.ntmps78
  obtain ⟨w1, hw1⟩ : ∃ W, W = w.alloc (.cells #[.int .i64 x.1, .slice ub un uc] 29) := ⟨_, rfl⟩
  have z1 : Below w.heap.size w w1 := by rw [hw1]; exact (Below.refl _ _).alloc (Nat.le_refl _) _
  have s1 : w1.heap.size = w.heap.size + 1 := by rw [hw1]; simp
  have hb1 := on hb0 z1
  have b_0 : w1.cell? ⟨w.heap.size, 0, none⟩ = some (.int .i64 x.1) := by rw [hw1]; exact box_cell (Below.refl _ _) rfl
  have b_1 : w1.cell? ⟨w.heap.size, 1, none⟩ = some (.slice ub un uc) := by rw [hw1]; exact box_cell (Below.refl _ _) rfl
  have raw1_b_0 := b_0
  have raw1_b_1 := b_1
  rw [hw1] at raw1_b_0 raw1_b_1
  go_wp2_with fail
  rw [← hw1]
  clear hw1
  clear raw1_b_0 raw1_b_1
  clear hlow
  go_loopw [5, 6] (fun s k wr => ∃ g i : Nat, g < 16 ∧ i ≤ un ∧ k = .int .i64 i ∧ s = .int .i64 g ∧ Hid (iterM x K un L = iterM x K (un - i) g) ∧ Below w1.heap.size w1 wr) (fun _ k _ => un - (intOf k).toNat)
  case atStart => exact ⟨L, 0, l2, Nat.zero_le _, rfl, rfl, rfl, Below.refl _ _⟩
  case round =>
    obtain ⟨g, i, hg, hi, rfl, rfl, hE, hdr⟩ := hrel
    have hlc := hdr
    have s2 := hdr.size
    have hb2 := on hb1 hdr
    replace b_0 := bxc hdr b_0
    replace b_1 := bxc hdr b_1
    by_cases hlt : i < un
    · go_wp2_with fail
      refine (l8Near_any _ x g n _ (rQ.mono h hb2) HQ.out hg).mono ?_
      rintro e w3 ⟨rfl, z3⟩
      have s4 := z3.size
      have hb4 := on hb2 z3
      replace b_0 := bxc z3 b_0
      replace b_1 := bxc z3 b_1
      replace hlc := on hlc z3
      obtain ⟨N, hN⟩ : ∃ N, N = near x g := ⟨_, rfl⟩
      rw [← hN]
      have hN16 : N < 16 := by rw [hN]; exact Nat.lt_of_lt_of_le (near_lt x g) (pow_le16 hl4)
      have hS : stepM x K g = g ||| (N &&& K) := by rw [hN]; rfl
      have hS16 : stepM x K g < 16 := stepM_lt hl4 hg
      have ha := bits_and_nat N K (by omega) (by omega)
      have hNK : N &&& K < 16 := Nat.lt_of_le_of_lt Nat.and_le_left hN16
      have ho := bits_or_nat g (N &&& K) (by omega) (by omega)
      rw [← hS] at ho
      obtain ⟨S, hSS⟩ : ∃ S, S = stepM x K g := ⟨_, rfl⟩
      rw [← hSS] at ho hS16
      have HE2 : Hid (iterM x K un L = iterM x K (un - (i + 1)) S) := Lib.hid (by
        rw [hE.out, show un - i = (un - (i + 1)) + 1 by omega, iterM, ← hSS])
      clear hS hN hSS hNK
      go_wp2_with fail
      go_roundw
      case rel => exact ⟨S, i + 1, hS16, by omega, by go_num, rfl, HE2, hlc⟩
      case measure => simp [intOf]; omega
    · have HE := Lib.hid (show decide ((g : Int) = (K : Int)) = joined x K by
        rw [HJ.out, hE.out, show un - i = 0 by omega]
        show _ = decide (g = K)
        rw [Bool.eq_iff_iff]; simp only [decide_eq_true_eq]; omega)
      go_wp2_with fail
      go_ret
      exact ⟨ret_bool (by rw [← HE.out]; rfl), hb2⟩

end Go.Proofs.YtpgfkjcekhifiaaGreat

namespace Go.Proofs.YtpgfkjcekhifiaaGreat

open Go.RowKit

set_option linter.unusedVariables false

set_option linter.unusedSimpArgs false

set_option synthInstance.maxSize 2000

set_option synthInstance.maxHeartbeats 400000

def isConn (q : DQ) (k : Int) : Bool := maskOkB q k && conn q k.toNat

theorem isConn_no {q : DQ} {k : Int} (h : maskOkB q k = false) : isConn q k = false := by simp [isConn, h]

theorem isConn_yes {q : DQ} {K : Nat} (h : maskOkB q (K : Int) = true) : isConn q (K : Int) = conn q K := by simp [isConn, h]

theorem connMasks_no {q : DQ} (h : fullMask q = 0) : connMasks q = [] := by simp [connMasks, h, connTo]

theorem fullMask_nat (q : DQ) : ∃ M : Nat, fullMask q = M ∧ M < 16 ∧ (M ≠ 0 → validQ q = true ∧ M < 2 ^ q.2.length) ∧ connMasks q = connTo q M := by
  by_cases h : validQ q = true
  · obtain ⟨n, hq⟩ := QOk.of h
    have h1 := pow_le16 hq.len
    have h2 := Nat.two_pow_pos q.2.length
    refine ⟨2 ^ q.2.length - 1, fullMask_yes h, by omega, fun _ => ⟨h, by omega⟩, by rw [connMasks, fullMask_yes h]; rfl⟩
  · exact ⟨0, fullMask_no (by simpa using h), by omega, fun h => absurd rfl h, by rw [connMasks_no (fullMask_no (by simpa using h))]; rfl⟩

theorem connMasks_len (q : DQ) : (connMasks q).length ≤ 15 := by
  obtain ⟨M, _, h2, _, h4⟩ := fullMask_nat q
  rw [h4]; have := connTo_len q M; omega

theorem conn_joined (q : DQ) (m : Nat) : conn q (m + 1) = joined q (m + 1) := by simp [conn]

set_option maxHeartbeats 1000000 in
theorem isConn_spec (cs : List Value) (x : DQ) (k : Int) (w : World) (h : rQ.rep w cs x) :
    Calls Tryz.prog 47 #[.agg cs.toArray, .int .i64 k] w fun e w' => e = .returned (.bool (isConn x k)) ∧ Below w.heap.size w w' := by
  obtain ⟨ub, un, uc, rfl⟩ := rQ_form h
  have hb0 : Below w.heap.size w w := Below.refl _ _
  go_enter Tryz.func47, Tryz.ntmps47
  obtain ⟨w1, hw1⟩ : ∃ W, W = w.alloc (.cells #[.int .i64 x.1, .slice ub un uc] 29) := ⟨_, rfl⟩
  have z1 : Below w.heap.size w w1 := by rw [hw1]; exact (Below.refl _ _).alloc (Nat.le_refl _) _
  have s1 : w1.heap.size = w.heap.size + 1 := by rw [hw1]; simp
  have hb1 := on hb0 z1
  have b_0 : w1.cell? ⟨w.heap.size, 0, none⟩ = some (.int .i64 x.1) := by rw [hw1]; exact box_cell (Below.refl _ _) rfl
  have b_1 : w1.cell? ⟨w.heap.size, 1, none⟩ = some (.slice ub un uc) := by rw [hw1]; exact box_cell (Below.refl _ _) rfl
  have raw1_b_0 := b_0
  have raw1_b_1 := b_1
  rw [hw1] at raw1_b_0 raw1_b_1
  go_wp2_with fail
  rw [← hw1]
  clear hw1
  clear raw1_b_0 raw1_b_1
  refine (maskOk_spec _ x k _ (rQ.mono h hb1)).mono ?_
  rintro e w2 ⟨rfl, z2⟩
  have s3 := z2.size
  have hb3 := on hb1 z2
  replace b_0 := bxc z2 b_0
  replace b_1 := bxc z2 b_1
  by_cases hv : maskOkB x k = true
  case neg =>
    replace hv : maskOkB x k = false := by simpa using hv
    have HE := Lib.hid (isConn_no hv)
    go_wp2_with fail
    go_ret
    exact ⟨ret_bool HE.out.symm, hb3⟩
  obtain ⟨K, rfl, hK⟩ := maskOkB_lt hv
  obtain ⟨n, hq⟩ := QOk.of (maskOkB_valid hv)
  have HE := Lib.hid (isConn_yes hv)
  by_cases h0 : K = 0
  case pos =>
    subst h0
    have HE0 := Lib.hid (show isConn x ((0 : Nat) : Int) = false by rw [HE.out]; simp [conn])
    clear hq hK
    go_wp2_with fail
    go_ret
    exact ⟨ret_bool HE0.out.symm, hb3⟩
  have HJ := Lib.hid (show conn x K = joined x K by simp [conn, h0])
  have hpos : 0 < K := by omega
  clear h0
  go_wp2_with fail
  refine (joinedQ_any _ x K n _ (rQ.mono h hb3) hq hK).mono ?_
  rintro e w4 ⟨rfl, z4⟩
  have s5 := z4.size
  have hb5 := on hb3 z4
  replace b_0 := bxc z4 b_0
  replace b_1 := bxc z4 b_1
  clear hq hK
  go_wp2_with fail
  go_ret
  exact ⟨ret_bool (by rw [HE.out, HJ.out]), hb5⟩

set_option maxHeartbeats 2000000 in
theorem connMasks_impl (cs : List Value) (x : DQ) (w : World) (h : rQ.rep w cs x) :
    Calls Tryz.prog 46 #[.agg cs.toArray] w fun e w' => ∃ u, e = .returned u ∧ Own oI w.heap.size w'.heap.size w' [u] (connMasks x) ∧ Below w.heap.size w w' := by
  obtain ⟨ub, un, uc, rfl⟩ := rQ_form h
  have hb0 : Below w.heap.size w w := Below.refl _ _
  obtain ⟨M, hM, hM16, hMv, hMc⟩ := fullMask_nat x
  have HV := Lib.hid hMv
  have HC := Lib.hid hMc
  clear hMv hMc
  have hfull := fun W (hW : rQ.rep W [.int .i64 x.1, .slice ub un uc] x) => fullMask_impl _ x W hW
  rw [hM] at hfull
  have HF := Lib.hid hfull
  clear hfull hM
  go_enter Tryz.func46, Tryz.ntmps46
  obtain ⟨w1, hw1⟩ : ∃ W, W = w.alloc (.cells #[.int .i64 x.1, .slice ub un uc] 29) := ⟨_, rfl⟩
  have z1 : Below w.heap.size w w1 := by rw [hw1]; exact (Below.refl _ _).alloc (Nat.le_refl _) _
  have s1 : w1.heap.size = w.heap.size + 1 := by rw [hw1]; simp
  have hb1 := on hb0 z1
  have b_0 : w1.cell? ⟨w.heap.size, 0, none⟩ = some (.int .i64 x.1) := by rw [hw1]; exact box_cell (Below.refl _ _) rfl
  have b_1 : w1.cell? ⟨w.heap.size, 1, none⟩ = some (.slice ub un uc) := by rw [hw1]; exact box_cell (Below.refl _ _) rfl
  have raw1_b_0 := b_0
  have raw1_b_1 := b_1
  rw [hw1] at raw1_b_0 raw1_b_1
  obtain ⟨w2, hw2⟩ : ∃ W, W = w1.alloc (.cells #[] 3) := ⟨_, rfl⟩
  have z2 : Below w1.heap.size w1 w2 := by rw [hw2]; exact (Below.refl _ _).alloc (Nat.le_refl _) _
  have s2 : w2.heap.size = w1.heap.size + 1 := by rw [hw2]; simp
  have hb2 := on hb1 z2
  replace b_0 := bxc z2 b_0
  replace b_1 := bxc z2 b_1
  have ho : ∀ S, Acc 3 O.int w1.heap.size S w2.heap.size w2 (.slice (some ⟨w.heap.size + 1, 0, none⟩) 0 0) [] := fun S => by rw [hw2]; exact Acc.empty (by omega) (by simp; omega)
  go_wp2_with fail
  rw [← hw1]
  rw [← hw2]
  clear hw2 hw1
  clear raw1_b_0 raw1_b_1
  go_loopw [3, 4] (fun v k wr => ∃ j : Nat, j ≤ M ∧ k = .int .i64 ((j : Int) + 1) ∧ Acc 3 O.int w1.heap.size w2.heap.size wr.heap.size wr v (connTo x j) ∧ Turn w1.heap.size (w1.heap.size + 1) w2 wr) (fun _ k _ => 16 - (intOf k).toNat)
  case atStart => exact ⟨0, Nat.zero_le _, rfl, (ho _).wide (Nat.le_refl _) (by omega), turn_refl _ _ _⟩
  case round =>
    obtain ⟨j, hj, rfl, hacc, hdr⟩ := hrel
    have hlc := hdr
    clear ho
    have s3 := hdr.size
    have hb3 := hb2.trans ((hdr.below (by omega)).mono (by omega))
    replace b_0 := txc hdr b_0
    replace b_1 := txc hdr b_1
    have hlen := connTo_len x j
    go_wp2_with fail
    refine (HF.out _ (rQ.mono h hb3)).mono ?_
    rintro e w7 ⟨rfl, z7⟩
    have s4 := z7.size
    have hb4 := on hb3 z7
    replace b_0 := bxc z7 b_0
    replace b_1 := bxc z7 b_1
    replace hlc := hlc.trans (turn_below z7 (Nat.le_refl _))
    replace hacc := hacc.below z7 (by omega)
    by_cases hlt : j < M
    · obtain ⟨hv, hM2⟩ := HV.out (by omega)
      obtain ⟨n, hq⟩ := QOk.of hv
      have e1 : ((j : Int) + 1) = ((j + 1 : Nat) : Int) := by omega
      have hcall := fun W (hW : rQ.rep W [.int .i64 x.1, .slice ub un uc] x) => connected_any _ x (j + 1) n W hW hq (by omega)
      rw [conn_joined, ← e1] at hcall
      have HC2 := Lib.hid hcall
      have hj1 : (j : Int) + 1 ≤ (M : Int) := by omega
      clear hcall e1 hq hv hM2
      obtain ⟨t, ht⟩ : ∃ t, t = joined x (j + 1) := ⟨_, rfl⟩
      rw [← ht] at HC2
      go_wp2_with fail
      refine (HC2.out _ (rQ.mono h hb4)).mono ?_
      rintro e w8 ⟨rfl, z8⟩
      have s5 := z8.size
      have hb5 := on hb4 z8
      replace b_0 := bxc z8 b_0
      replace b_1 := bxc z8 b_1
      replace hlc := hlc.trans (turn_below z8 (Nat.le_refl _))
      replace hacc := hacc.below z8 (by omega)
      cases t with
      | true =>
        have HY := Lib.hid (connTo_yes ht.symm)
        clear ht
        go_wp2_with ((at_builtin; refine wpList_accI _ _ _ _ _ hacc hlc rfl (by omega) (by omega) ⟨by omega, by omega⟩ (by omega) rfl rfl rfl rfl rfl ?_; intro v' w1 hacc' ht' hsz'))
        rw [show ((j : Int) + 1) = ((j + 1 : Nat) : Int) by omega, ← HY.out] at hacc'
        go_roundw
        case rel => exact ⟨j + 1, by omega, by go_num, hacc', ht'⟩
        case measure => simp [intOf]; omega
      | false =>
        rw [← connTo_no ht.symm] at hacc
        have HO := Lib.hid (hacc.wide (hi' := w8.heap.size) (Nat.le_refl _) (by omega))
        clear ht hacc
        go_wp2_with fail
        go_roundw
        case rel => exact ⟨j + 1, by omega, by go_num, HO.out, hlc⟩
        case measure => simp [intOf]; omega
    · obtain rfl : j = M := by omega
      have hj1 : ¬ ((j : Int) + 1 ≤ (j : Int)) := by omega
      obtain ⟨a', n', cap2, rfl⟩ := hacc.form3
      rw [← HC.out] at hacc
      have HO := Lib.hid (hacc.own (B := w.heap.size) (hi' := w7.heap.size) (by omega) (by omega) (by omega))
      clear hacc
      go_wp2_with fail
      go_ret
      exact ⟨_, rfl, HO.out, hb4⟩

end Go.Proofs.YtpgfkjcekhifiaaGreat
