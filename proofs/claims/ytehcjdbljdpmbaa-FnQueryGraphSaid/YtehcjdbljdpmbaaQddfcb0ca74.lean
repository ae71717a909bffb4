/- Texts joined for one claim: ValidQS, MaskC, NearP, MaskV, SplitP, MaskI, NearC, Shared, Conn, Conn2, Split, GraphP. -/
import Derived.Test.YtehcjdbljdpmbaaQ97469d5ac6
import Derived.Test.YtehcjdbljdpmbaaQ215b4990d4
import Derived.Deep.RegionHeld3

/- Contracts: whether a query is valid: the reference's. -/
namespace Go.Proofs.Ytehcjdbljdpmbaa
open Go.RowKit
set_option linter.unusedVariables false
set_option linter.unusedSimpArgs false
set_option synthInstance.maxSize 2000
set_option synthInstance.maxHeartbeats 400000

set_option maxHeartbeats 2000000 in
theorem validQ_spec (cs : List Value) (x : DQ) (w : World) (h : rQ.rep w cs x) :
    Calls Try.prog 70 #[.agg cs.toArray] w fun e w' => e = .returned (.bool (validQ x)) ∧ Below w.heap.size w w' := by
  obtain ⟨ub, un, uc, rfl, hi, g1⟩ := rQ_open h
  clear h
  obtain ⟨i, xs⟩ := x
  simp only at hi g1
  obtain ⟨hi1, hi2⟩ := hi
  have t0 := rS_sl g1
  have hl := t0.len
  have hn := t0.small
  clear t0
  have hb0 : Below w.heap.size w w := Below.refl _ _
  by_cases h1 : betw i 1 4 = true
  case neg =>
    replace h1 : betw i 1 4 = false := by simpa using h1
    have HE := Lib.hid (validQ_no1 (q := (i, xs)) h1)
    go_enter Try.func70, Try.ntmps70
    obtain ⟨w1, hw1⟩ : ∃ W, W = w.alloc (.cells #[.int .i64 i, .slice ub un uc] 46) := ⟨_, rfl⟩
    have z1 : Below w.heap.size w w1 := by rw [hw1]; exact (Below.refl _ _).alloc (Nat.le_refl _) _
    have s1 : w1.heap.size = w.heap.size + 1 := by rw [hw1]; simp
    have hb1 := on hb0 z1
    have b_0 : w1.cell? ⟨w.heap.size, 0, none⟩ = some (.int .i64 i) := by rw [hw1]; exact box_cell (Below.refl _ _) rfl
    have b_1 : w1.cell? ⟨w.heap.size, 1, none⟩ = some (.slice ub un uc) := by rw [hw1]; exact box_cell (Below.refl _ _) rfl
    have raw1_b_0 := b_0
    have raw1_b_1 := b_1
    rw [hw1] at raw1_b_0 raw1_b_1
    go_wp2_with fail
    rw [← hw1]
    clear hw1
    clear raw1_b_0 raw1_b_1
    refine (l1In_any _ _ _ _).mono ?_
    rintro e w' ⟨rfl, rfl⟩
    clear hl
    go_wp2_with fail
    go_ret
    exact ⟨ret_bool HE.out.symm, hb1⟩
  by_cases h2 : betw un 1 4 = true
  case neg =>
    replace h2 : betw un 1 4 = false := by simpa using h2
    have HE := Lib.hid (validQ_no2 (q := (i, xs)) (by simp only []; rw [hl]; exact h2))
    go_enter Try.func70, Try.ntmps70
    obtain ⟨w2, hw2⟩ : ∃ W, W = w.alloc (.cells #[.int .i64 i, .slice ub un uc] 46) := ⟨_, rfl⟩
    have z2 : Below w.heap.size w w2 := by rw [hw2]; exact (Below.refl _ _).alloc (Nat.le_refl _) _
    have s2 : w2.heap.size = w.heap.size + 1 := by rw [hw2]; simp
    have hb2 := on hb0 z2
    have b_0 : w2.cell? ⟨w.heap.size, 0, none⟩ = some (.int .i64 i) := by rw [hw2]; exact box_cell (Below.refl _ _) rfl
    have b_1 : w2.cell? ⟨w.heap.size, 1, none⟩ = some (.slice ub un uc) := by rw [hw2]; exact box_cell (Below.refl _ _) rfl
    have raw2_b_0 := b_0
    have raw2_b_1 := b_1
    rw [hw2] at raw2_b_0 raw2_b_1
    go_wp2_with fail
    rw [← hw2]
    clear hw2
    clear raw2_b_0 raw2_b_1
    refine (l1In_any _ _ _ _).mono ?_
    rintro e w' ⟨rfl, rfl⟩
    go_wp2_with fail
    refine (l1In_any _ _ _ _).mono ?_
    rintro e w' ⟨rfl, rfl⟩
    clear hl
    go_wp2_with fail
    go_ret
    exact ⟨ret_bool HE.out.symm, hb2⟩
  have h3 := h1
  simp only [betw, Bool.and_eq_true, decide_eq_true_eq] at h3
  obtain ⟨n, rfl⟩ := Int.eq_ofNat_of_zero_le (show 0 ≤ i by omega)
  have hn1 : 1 ≤ n ∧ n ≤ 4 := by omega
  obtain ⟨hn1, hn4⟩ := hn1
  clear h3 hi1 hi2
  have HV := Lib.hid (validQ_go (xs := xs) h1 (by rw [hl]; exact h2))
  have H2 := Lib.hid h2
  go_enter Try.func70, Try.ntmps70
  obtain ⟨w3, hw3⟩ : ∃ W, W = w.alloc (.cells #[.int .i64 n, .slice ub un uc] 46) := ⟨_, rfl⟩
  have z3 : Below w.heap.size w w3 := by rw [hw3]; exact (Below.refl _ _).alloc (Nat.le_refl _) _
  have s3 : w3.heap.size = w.heap.size + 1 := by rw [hw3]; simp
  have hb3 := on hb0 z3
  have b_0 : w3.cell? ⟨w.heap.size, 0, none⟩ = some (.int .i64 n) := by rw [hw3]; exact box_cell (Below.refl _ _) rfl
  have b_1 : w3.cell? ⟨w.heap.size, 1, none⟩ = some (.slice ub un uc) := by rw [hw3]; exact box_cell (Below.refl _ _) rfl
  have raw3_b_0 := b_0
  have raw3_b_1 := b_1
  rw [hw3] at raw3_b_0 raw3_b_1
  go_wp2_with fail
  rw [← hw3]
  clear hw3
  clear raw3_b_0 raw3_b_1
  refine (l1In_any _ _ _ _).mono ?_
  rintro e w' ⟨rfl, rfl⟩
  go_wp2_with fail
  refine (l1In_any _ _ _ _).mono ?_
  rintro e w' ⟨rfl, rfl⟩
  go_wp2_with fail
  clear h1 h2
  go_loopw [3, 4] (fun s k wr => ∃ j m : Nat, j ≤ un ∧ m < 2 ^ n ∧ k = .int .i64 j ∧ s = .int .i64 m ∧ Hid (validQ ((n : Int), xs) = validFrom n m (xs.drop j)) ∧ Below w3.heap.size w3 wr) (fun _ k _ => un - (intOf k).toNat)
  case atStart => exact ⟨0, 0, Nat.zero_le _, Nat.two_pow_pos _, rfl, rfl, HV.out, Below.refl _ _⟩
  case round =>
    obtain ⟨j, m, hj, hm, rfl, rfl, hE, hdr⟩ := hrel
    obtain ⟨wo, rfl⟩ : ∃ W, W = wr := ⟨_, rfl⟩
    have hlc := hdr
    have s4 := hdr.size
    have hb4 := on hb3 hdr
    replace b_0 := (hdr.cell (p := ⟨w.heap.size, 0, none⟩) (by simp only []; omega)).trans b_0
    replace b_1 := (hdr.cell (p := ⟨w.heap.size, 1, none⟩) (by simp only []; omega)).trans b_1
    have t0 := rS_sl g1
    have hm16 := pow_le16 hn4
    by_cases hlt : j < un
    · obtain ⟨b1, o1, cs, x, rfl, hx, hr, hc⟩ := t0.at hlt
      obtain ⟨s, vs⟩ := x
      obtain ⟨vb, vn, vc, rfl, hs, g2⟩ := rA_open hr
      simp only at hs g2
      have i0 := rI_ints g2
      have hvl := i0.len
      have hvs := i0.small
      obtain ⟨hvc, hvc2⟩ := rS_cap g2
      have e_lt : b1 < w.heap.size := cell_lt (hc 0 _ rfl)
      have e_0 : wo.cell? ⟨b1, o1 + j * 2, none⟩ = some (.string s) := (hb4.cell (p := ⟨b1, o1 + j * 2, none⟩) e_lt).trans (by have h9 := hc 0 _ rfl; rw [← Nat.add_assoc] at h9; exact h9)
      have e_1 : wo.cell? ⟨b1, o1 + j * 2 + 1, none⟩ = some (.slice vb vn vc) := (hb4.cell (p := ⟨b1, o1 + j * 2 + 1, none⟩) e_lt).trans (by have h9 := hc 1 _ rfl; rw [← Nat.add_assoc] at h9; exact h9)
      have HA := Lib.hid (hE.out.trans (validFrom_at hx.out))
      clear hc t0 hr hl hx hE i0 HV
      obtain ⟨w5, hw5⟩ : ∃ W, W = wo.alloc (.cells #[.string s, .slice vb vn vc] 87) := ⟨_, rfl⟩
      have z5 : Below wo.heap.size wo w5 := by rw [hw5]; exact (Below.refl _ _).alloc (Nat.le_refl _) _
      have s5 : w5.heap.size = wo.heap.size + 1 := by rw [hw5]; simp
      have hb5 := on hb4 z5
      have old5_b_0 := b_0
      have old5_b_1 := b_1
      have old5_e_0 := e_0
      have old5_e_1 := e_1
      replace b_0 := (z5.cell (p := ⟨w.heap.size, 0, none⟩) (by simp only []; omega)).trans b_0
      replace b_1 := (z5.cell (p := ⟨w.heap.size, 1, none⟩) (by simp only []; omega)).trans b_1
      replace hlc := on hlc z5
      replace e_0 := (z5.cell (p := ⟨b1, o1 + j * 2, none⟩) (by simp only []; omega)).trans e_0
      replace e_1 := (z5.cell (p := ⟨b1, o1 + j * 2 + 1, none⟩) (by simp only []; omega)).trans e_1
      have p_0 : w5.cell? ⟨wo.heap.size, 0, none⟩ = some (.string s) := by rw [hw5]; exact box_cell (Below.refl _ _) rfl
      have p_1 : w5.cell? ⟨wo.heap.size, 1, none⟩ = some (.slice vb vn vc) := by rw [hw5]; exact box_cell (Below.refl _ _) rfl
      have raw5_b_0 := b_0
      have raw5_b_1 := b_1
      have raw5_e_0 := e_0
      have raw5_e_1 := e_1
      have raw5_p_0 := p_0
      have raw5_p_1 := p_1
      rw [hw5] at raw5_b_0 raw5_b_1 raw5_e_0 raw5_e_1 raw5_p_0 raw5_p_1
      by_cases h1 : nameB s = true
      case neg =>
        replace h1 : nameB s = false := by simpa using h1
        have HE := Lib.hid (show validQ ((n : Int), xs) = false by rw [HA.out]; simp [h1])
        go_wp2_with fail
        rw [← hw5]
        clear hw5
        clear old5_b_0 old5_b_1 old5_e_0 old5_e_1 raw5_b_0 raw5_b_1 raw5_e_0 raw5_e_1 raw5_p_0 raw5_p_1
        refine (l4Name_any _ _ hs).mono ?_
        rintro e w' ⟨rfl, rfl⟩
        go_wp2_with fail
        go_ret
        exact ⟨ret_bool HE.out.symm, hb5⟩
      by_cases h2 : betw vn 1 3 = true
      case neg =>
        replace h2 : betw vn 1 3 = false := by simpa using h2
        have HE := Lib.hid (show validQ ((n : Int), xs) = false by rw [HA.out]; simp [hvl, h2])
        go_wp2_with fail
        rw [← hw5]
        clear hw5
        clear old5_b_0 old5_b_1 old5_e_0 old5_e_1 raw5_b_0 raw5_b_1 raw5_e_0 raw5_e_1 raw5_p_0 raw5_p_1
        refine (l4Name_any _ _ hs).mono ?_
        rintro e w' ⟨rfl, rfl⟩
        go_wp2_with fail
        refine (l1In_any _ _ _ _).mono ?_
        rintro e w' ⟨rfl, rfl⟩
        go_wp2_with fail
        go_ret
        exact ⟨ret_bool HE.out.symm, hb5⟩
      have HA2 := Lib.hid (show validQ ((n : Int), xs) = (varsFrom n (vs.take 0) (vs.drop 0) && validFrom n (vbits m (vs.drop 0)) (xs.drop (j + 1))) by rw [HA.out]; simp [h1, hvl, h2])
      clear HA
      go_wp2_with fail
      rw [← hw5]
      clear hw5
      clear old5_b_0 old5_b_1 old5_e_0 old5_e_1 raw5_b_0 raw5_b_1 raw5_e_0 raw5_e_1 raw5_p_0 raw5_p_1
      refine (l4Name_any _ _ hs).mono ?_
      rintro e w' ⟨rfl, rfl⟩
      go_wp2_with fail
      refine (l1In_any _ _ _ _).mono ?_
      rintro e w' ⟨rfl, rfl⟩
      have h3 := h2
      simp only [betw, Bool.and_eq_true, decide_eq_true_eq] at h3
      go_wp2_with fail
      clear h1 h2
      go_loopw [3, 6] (fun s k wr => ∃ i m : Nat, i ≤ vn ∧ m < 2 ^ n ∧ k = .int .i64 i ∧ s = .int .i64 m ∧ Hid (validQ ((n : Int), xs) = (varsFrom n (vs.take i) (vs.drop i) && validFrom n (vbits m (vs.drop i)) (xs.drop (j + 1)))) ∧ Drew w5 wr) (fun _ k _ => vn - (intOf k).toNat)
      case atStart => exact ⟨0, m, Nat.zero_le _, hm, rfl, rfl, HA2.out, Drew.refl _⟩
      case round =>
        obtain ⟨i, m, hi, hm, rfl, rfl, hE, hdr⟩ := hrel
        have hlo := hdr
        replace hdr : Below w5.heap.size w5 wr := hdr.below _
        have s6 := hdr.size
        have hb6 := on hb5 hdr
        replace b_0 := (hdr.cell (p := ⟨w.heap.size, 0, none⟩) (by simp only []; omega)).trans b_0
        replace b_1 := (hdr.cell (p := ⟨w.heap.size, 1, none⟩) (by simp only []; omega)).trans b_1
        replace hlc := on hlc hdr
        replace e_0 := (hdr.cell (p := ⟨b1, o1 + j * 2, none⟩) (by simp only []; omega)).trans e_0
        replace e_1 := (hdr.cell (p := ⟨b1, o1 + j * 2 + 1, none⟩) (by simp only []; omega)).trans e_1
        replace p_0 := (hdr.cell (p := ⟨wo.heap.size, 0, none⟩) (by simp only []; omega)).trans p_0
        replace p_1 := (hdr.cell (p := ⟨wo.heap.size, 1, none⟩) (by simp only []; omega)).trans p_1
        have hm16 := pow_le16 hn4
        have i0 := rI_ints g2
        by_cases hlv : i < vn
        · obtain ⟨b2, o2, v, rfl, hc, hv, hv1, hv2⟩ := i0.get hlv
          have v0_lt : b2 < w.heap.size := cell_lt hc
          have v0 : wr.cell? ⟨b2, o2 + i, none⟩ = some (.int .i64 v) := (hb6.cell (p := ⟨b2, o2 + i, none⟩) v0_lt).trans hc
          clear hc
          by_cases h4 : betw v 0 ((n : Int) - 1) = true
          case neg =>
            replace h4 : betw v 0 ((n : Int) - 1) = false := by simpa using h4
            have HE := Lib.hid (show validQ ((n : Int), xs) = false by rw [hE.out, vars_no (by omega) hv.out (by simp [h4])]; rfl)
            clear i0 hvl
            go_wp2_with fail
            go_quiet ((go_at_call 50; exact quiet_same (l1In_any _ _ _ _)))
            go_wp2_with fail
            go_ret
            exact ⟨ret_bool HE.out.symm, onD hb6 ⟨_, rfl⟩⟩
          have hcall := fun q => l7Has_any (some ⟨b2, o2, none⟩) i vc (vs.take i) v (wr.drewN q) (((i0.takeTo (by omega)).below hb6).drewN q)
          obtain ⟨t, ht⟩ : ∃ t, t = has (vs.take i) v := ⟨_, rfl⟩
          rw [← ht] at hcall
          have HC := Lib.hid hcall
          clear hcall
          have h5 := h4
          simp only [betw, Bool.and_eq_true, decide_eq_true_eq] at h5
          obtain ⟨v, rfl⟩ := Int.eq_ofNat_of_zero_le h5.1
          have hvn : v < n := by omega
          clear h5
          cases t with
          | true =>
            have HE := Lib.hid (show validQ ((n : Int), xs) = false by rw [hE.out, vars_no (by omega) hv.out (by rw [← ht]; simp)]; rfl)
            clear i0 hvl ht
            go_wp2_with fail
            go_quiet ((first | (go_at_call 50; exact quiet_same (l1In_any _ _ _ _)) | (go_at_call 72; exact quiet_same (HC.out _))))
            go_wp2_with fail
            go_ret
            exact ⟨ret_bool HE.out.symm, onD hb6 ⟨_, rfl⟩⟩
          | false =>
            have HE := Lib.hid (hE.out.trans (show _ = (varsFrom n (vs.take (i + 1)) (vs.drop (i + 1)) && validFrom n (vbits (m ||| 2 ^ v) (vs.drop (i + 1))) (xs.drop (j + 1))) by rw [vars_yes (by omega) hv.out h4 ht.symm, vbits_at (by omega) hv.out]))
            have hmo := or_lt hm hvn
            clear i0 hvl ht
            go_wp2_with fail
            go_quiet ((first | (go_at_call 50; exact quiet_same (l1In_any _ _ _ _)) | (go_at_call 72; exact quiet_same (HC.out _))))
            go_wp2_with fail
            go_roundw
            case rel => exact ⟨i + 1, m ||| 2 ^ v, by omega, hmo, by go_num, by show Value.int _ _ = _; first | (rw [or_pow (by omega) (by omega)]) | (rw [← or_pow (m := m) (v := v) (by omega) (by omega)]; rfl), HE.out, hlo.step _⟩
            case measure => simp [intOf]; omega
        · have HE := Lib.hid (show validQ ((n : Int), xs) = validFrom n m (xs.drop (j + 1)) by rw [hE.out, vars_end (by omega), vbits_end (by omega)]; rfl)
          clear i0 hvl
          go_wp2_with fail
          go_roundw
          case rel => exact ⟨j + 1, m, by omega, hm, by go_num, rfl, HE.out, hlc⟩
          case measure => simp [intOf]; omega
    · have HE := Lib.hid (hE.out.trans (validFrom_end (by omega)))
      clear t0 hl hE HV
      go_wp2_with fail
      go_ret
      exact ⟨ret_bool (by rw [HE.out]; exact full_eq (by omega)), hb4⟩

end Go.Proofs.Ytehcjdbljdpmbaa

/- Contracts: masks of a query, and their variables. -/
namespace Go.Proofs.Ytehcjdbljdpmbaa
open Go.RowKit
set_option linter.unusedVariables false
set_option linter.unusedSimpArgs false
set_option synthInstance.maxSize 2000
set_option synthInstance.maxHeartbeats 400000

theorem full_int {n : Nat} (hn : n ≤ 16) : wrap64 (wrap64 ((2 : Int) ^ n) - 1) = ((2 ^ n - 1 : Nat) : Int) := by
  have h1 := Nat.pow_le_pow_right (show 0 < 2 by omega) hn
  have h2 := Nat.two_pow_pos n
  rw [wrap_pow hn]
  generalize 2 ^ n = p at h1 h2
  rw [IntWalk.wrap64_in _ ⟨by omega, by omega⟩]
  omega
theorem fullMask_no {q : DQ} (h : validQ q = false) : fullMask q = 0 := by simp [fullMask, h]
theorem fullMask_yes {q : DQ} (h : validQ q = true) : fullMask q = ((2 ^ q.2.length - 1 : Nat) : Int) := by simp [fullMask, h]

set_option maxHeartbeats 800000 in
theorem fullMask_impl (cs : List Value) (x : DQ) (w : World) (h : rQ.rep w cs x) :
    Calls Try.prog 31 #[.agg cs.toArray] w fun e w' => e = .returned (.int .i64 (fullMask x)) ∧ Below w.heap.size w w' := by
  obtain ⟨ub, un, uc, rfl, hi, g1⟩ := rQ_open h
  have hl := (rS_sl g1).len
  clear g1 hi
  have hb0 : Below w.heap.size w w := Below.refl _ _
  go_enter Try.func31, Try.ntmps31
  obtain ⟨w1, hw1⟩ : ∃ W, W = w.alloc (.cells #[.int .i64 x.1, .slice ub un uc] 46) := ⟨_, rfl⟩
  have z1 : Below w.heap.size w w1 := by rw [hw1]; exact (Below.refl _ _).alloc (Nat.le_refl _) _
  have s1 : w1.heap.size = w.heap.size + 1 := by rw [hw1]; simp
  have hb1 := on hb0 z1
  have b_0 : w1.cell? ⟨w.heap.size, 0, none⟩ = some (.int .i64 x.1) := by rw [hw1]; exact box_cell (Below.refl _ _) rfl
  have b_1 : w1.cell? ⟨w.heap.size, 1, none⟩ = some (.slice ub un uc) := by rw [hw1]; exact box_cell (Below.refl _ _) rfl
  have raw1_b_0 := b_0
  have raw1_b_1 := b_1
  rw [hw1] at raw1_b_0 raw1_b_1
  go_wp2_with fail
  rw [← hw1]
  clear hw1
  clear raw1_b_0 raw1_b_1
  refine (validQ_impl _ x _ (rQ.mono h hb1)).mono ?_
  rintro e w2 ⟨rfl, z2⟩
  have s3 := z2.size
  have hb3 := on hb1 z2
  replace b_0 := (z2.cell (p := ⟨w.heap.size, 0, none⟩) (by simp only []; omega)).trans b_0
  replace b_1 := (z2.cell (p := ⟨w.heap.size, 1, none⟩) (by simp only []; omega)).trans b_1
  by_cases hv : validQ x = true
  case neg =>
    replace hv : validQ x = false := by simpa using hv
    have HE := Lib.hid (fullMask_no hv)
    clear hl
    go_wp2_with fail
    go_ret
    exact ⟨ret_int HE.out.symm, hb3⟩
  have h9 : un ≤ 16 := by obtain ⟨n, hq⟩ := QOk.of hv; have := hq.len; omega
  have HE := Lib.hid (show wrap64 (wrap64 ((2 : Int) ^ un) - 1) = fullMask x by rw [full_int h9, fullMask_yes hv, hl])
  clear hl
  go_wp2_with fail
  go_ret
  exact ⟨ret_int HE.out, hb3⟩

set_option maxHeartbeats 800000 in
theorem fullMask_spec (cs : List Value) (x : DQ) (w : World) (h : rQ.rep w cs x) :
    Calls Try.prog 32 #[.agg cs.toArray] w fun e w' => e = .returned (.int .i64 (fullMask x)) ∧ Below w.heap.size w w' := by
  obtain ⟨ub, un, uc, rfl, hi, g1⟩ := rQ_open h
  have hl := (rS_sl g1).len
  clear g1 hi
  have hb0 : Below w.heap.size w w := Below.refl _ _
  go_enter Try.func32, Try.ntmps32
  obtain ⟨w1, hw1⟩ : ∃ W, W = w.alloc (.cells #[.int .i64 x.1, .slice ub un uc] 46) := ⟨_, rfl⟩
  have z1 : Below w.heap.size w w1 := by rw [hw1]; exact (Below.refl _ _).alloc (Nat.le_refl _) _
  have s1 : w1.heap.size = w.heap.size + 1 := by rw [hw1]; simp
  have hb1 := on hb0 z1
  have b_0 : w1.cell? ⟨w.heap.size, 0, none⟩ = some (.int .i64 x.1) := by rw [hw1]; exact box_cell (Below.refl _ _) rfl
  have b_1 : w1.cell? ⟨w.heap.size, 1, none⟩ = some (.slice ub un uc) := by rw [hw1]; exact box_cell (Below.refl _ _) rfl
  have raw1_b_0 := b_0
  have raw1_b_1 := b_1
  rw [hw1] at raw1_b_0 raw1_b_1
  go_wp2_with fail
  rw [← hw1]
  clear hw1
  clear raw1_b_0 raw1_b_1
  refine (validQ_spec _ x _ (rQ.mono h hb1)).mono ?_
  rintro e w2 ⟨rfl, z2⟩
  have s3 := z2.size
  have hb3 := on hb1 z2
  replace b_0 := (z2.cell (p := ⟨w.heap.size, 0, none⟩) (by simp only []; omega)).trans b_0
  replace b_1 := (z2.cell (p := ⟨w.heap.size, 1, none⟩) (by simp only []; omega)).trans b_1
  by_cases hv : validQ x = true
  case neg =>
    replace hv : validQ x = false := by simpa using hv
    have HE := Lib.hid (fullMask_no hv)
    clear hl
    go_wp2_with fail
    go_ret
    exact ⟨ret_int HE.out.symm, hb3⟩
  have h9 : un ≤ 16 := by obtain ⟨n, hq⟩ := QOk.of hv; have := hq.len; omega
  have HE := Lib.hid (show wrap64 (wrap64 ((2 : Int) ^ un) - 1) = fullMask x by rw [full_int h9, fullMask_yes hv, hl])
  clear hl
  go_wp2_with fail
  go_ret
  exact ⟨ret_int HE.out, hb3⟩

set_option maxHeartbeats 800000 in
theorem maskOk_impl (cs : List Value) (x : DQ) (k : Int) (w : World) (h : rQ.rep w cs x) :
    Calls Try.prog 67 #[.agg cs.toArray, .int .i64 k] w fun e w' => e = .returned (.bool (maskOkB x k)) ∧ Below w.heap.size w w' := by
  obtain ⟨ub, un, uc, rfl, hi, g1⟩ := rQ_open h
  have hl := (rS_sl g1).len
  clear g1 hi
  have hb0 : Below w.heap.size w w := Below.refl _ _
  go_enter Try.func67, Try.ntmps67
  obtain ⟨w1, hw1⟩ : ∃ W, W = w.alloc (.cells #[.int .i64 x.1, .slice ub un uc] 46) := ⟨_, rfl⟩
  have z1 : Below w.heap.size w w1 := by rw [hw1]; exact (Below.refl _ _).alloc (Nat.le_refl _) _
  have s1 : w1.heap.size = w.heap.size + 1 := by rw [hw1]; simp
  have hb1 := on hb0 z1
  have b_0 : w1.cell? ⟨w.heap.size, 0, none⟩ = some (.int .i64 x.1) := by rw [hw1]; exact box_cell (Below.refl _ _) rfl
  have b_1 : w1.cell? ⟨w.heap.size, 1, none⟩ = some (.slice ub un uc) := by rw [hw1]; exact box_cell (Below.refl _ _) rfl
  have raw1_b_0 := b_0
  have raw1_b_1 := b_1
  rw [hw1] at raw1_b_0 raw1_b_1
  go_wp2_with fail
  rw [← hw1]
  clear hw1
  clear raw1_b_0 raw1_b_1
  refine (validQ_impl _ x _ (rQ.mono h hb1)).mono ?_
  rintro e w2 ⟨rfl, z2⟩
  have s3 := z2.size
  have hb3 := on hb1 z2
  replace b_0 := (z2.cell (p := ⟨w.heap.size, 0, none⟩) (by simp only []; omega)).trans b_0
  replace b_1 := (z2.cell (p := ⟨w.heap.size, 1, none⟩) (by simp only []; omega)).trans b_1
  by_cases hv : validQ x = true
  case neg =>
    replace hv : validQ x = false := by simpa using hv
    have HE := Lib.hid (show maskOkB x k = false by simp [maskOkB, hv])
    clear hl
    go_wp2_with fail
    go_ret
    exact ⟨ret_bool HE.out.symm, hb3⟩
  have h9 : un ≤ 16 := by obtain ⟨n, hq⟩ := QOk.of hv; have := hq.len; omega
  have HE := Lib.hid (show betw k 0 (wrap64 (wrap64 ((2 : Int) ^ un) - 1)) = maskOkB x k by rw [full_int h9, ← hl]; simp [maskOkB, hv])
  clear hl
  go_wp2_with fail
  refine (within_any _ _ _ _).mono ?_
  rintro e w' ⟨rfl, rfl⟩
  obtain ⟨t, ht⟩ : ∃ t, t = betw k 0 (wrap64 (wrap64 ((2 : Int) ^ un) - 1)) := ⟨_, rfl⟩
  rw [← ht] at HE ⊢
  clear ht
  go_wp2_with fail
  go_ret
  exact ⟨ret_bool HE.out, hb3⟩

set_option maxHeartbeats 800000 in
theorem maskOk_spec (cs : List Value) (x : DQ) (k : Int) (w : World) (h : rQ.rep w cs x) :
    Calls Try.prog 68 #[.agg cs.toArray, .int .i64 k] w fun e w' => e = .returned (.bool (maskOkB x k)) ∧ Below w.heap.size w w' := by
  obtain ⟨ub, un, uc, rfl, hi, g1⟩ := rQ_open h
  have hl := (rS_sl g1).len
  clear g1 hi
  have hb0 : Below w.heap.size w w := Below.refl _ _
  go_enter Try.func68, Try.ntmps68
  obtain ⟨w1, hw1⟩ : ∃ W, W = w.alloc (.cells #[.int .i64 x.1, .slice ub un uc] 46) := ⟨_, rfl⟩
  have z1 : Below w.heap.size w w1 := by rw [hw1]; exact (Below.refl _ _).alloc (Nat.le_refl _) _
  have s1 : w1.heap.size = w.heap.size + 1 := by rw [hw1]; simp
  have hb1 := on hb0 z1
  have b_0 : w1.cell? ⟨w.heap.size, 0, none⟩ = some (.int .i64 x.1) := by rw [hw1]; exact box_cell (Below.refl _ _) rfl
  have b_1 : w1.cell? ⟨w.heap.size, 1, none⟩ = some (.slice ub un uc) := by rw [hw1]; exact box_cell (Below.refl _ _) rfl
  have raw1_b_0 := b_0
  have raw1_b_1 := b_1
  rw [hw1] at raw1_b_0 raw1_b_1
  go_wp2_with fail
  rw [← hw1]
  clear hw1
  clear raw1_b_0 raw1_b_1
  refine (validQ_spec _ x _ (rQ.mono h hb1)).mono ?_
  rintro e w2 ⟨rfl, z2⟩
  have s3 := z2.size
  have hb3 := on hb1 z2
  replace b_0 := (z2.cell (p := ⟨w.heap.size, 0, none⟩) (by simp only []; omega)).trans b_0
  replace b_1 := (z2.cell (p := ⟨w.heap.size, 1, none⟩) (by simp only []; omega)).trans b_1
  by_cases hv : validQ x = true
  case neg =>
    replace hv : validQ x = false := by simpa using hv
    have HE := Lib.hid (show maskOkB x k = false by simp [maskOkB, hv])
    clear hl
    go_wp2_with fail
    go_ret
    exact ⟨ret_bool HE.out.symm, hb3⟩
  have h9 : un ≤ 16 := by obtain ⟨n, hq⟩ := QOk.of hv; have := hq.len; omega
  have HE := Lib.hid (show betw k 0 (wrap64 (wrap64 ((2 : Int) ^ un) - 1)) = maskOkB x k by rw [full_int h9, ← hl]; simp [maskOkB, hv])
  clear hl
  go_wp2_with fail
  refine (l1In_any _ _ _ _).mono ?_
  rintro e w' ⟨rfl, rfl⟩
  obtain ⟨t, ht⟩ : ∃ t, t = betw k 0 (wrap64 (wrap64 ((2 : Int) ^ un) - 1)) := ⟨_, rfl⟩
  rw [← ht] at HE ⊢
  clear ht
  go_wp2_with fail
  go_ret
  exact ⟨ret_bool HE.out, hb3⟩

end Go.Proofs.Ytehcjdbljdpmbaa

/- Plain facts: neighbors and connected masks. -/
namespace Go.Proofs.Ytehcjdbljdpmbaa
open Go.RowKit
set_option linter.unusedVariables false
set_option linter.unusedSimpArgs false

/-- The atoms, from atom i on, outside a mask that share a variable with what is known; m: what is found already. -/
def nearFrom (K B m : Nat) : Nat → List DA → Nat
  | _, [] => m
  | i, a :: t => nearFrom K B (if !bitAt K i && decide (vbits 0 a.2 &&& B ≠ 0) then m ||| 2 ^ i else m) (i + 1) t
/-- The neighbors of a mask. -/
def near (q : DQ) (K : Nat) : Nat := nearFrom K (bitsOf q K) 0 0 q.2
theorem nearFrom_at {K B m j : Nat} {xs : List DA} {a : DA} (h : xs[j]? = some a) : nearFrom K B m j (xs.drop j) = nearFrom K B (if !bitAt K j && decide (vbits 0 a.2 &&& B ≠ 0) then m ||| 2 ^ j else m) (j + 1) (xs.drop (j + 1)) := by
  obtain ⟨h1, rfl⟩ := List.getElem?_eq_some_iff.1 h
  rw [List.drop_eq_getElem_cons h1]; rfl
theorem nearFrom_end {K B m j : Nat} {xs : List DA} (h : xs.length ≤ j) : nearFrom K B m j (xs.drop j) = m := by
  rw [List.drop_eq_nil_of_le h]; rfl
theorem nearFrom_lt {K B n : Nat} : ∀ {xs : List DA} {m i : Nat}, i + xs.length ≤ n → m < 2 ^ n → nearFrom K B m i xs < 2 ^ n
  | [], m, i, _, hm => hm
  | a :: t, m, i, h, hm => by
    simp only [List.length_cons] at h
    rw [nearFrom]
    refine nearFrom_lt (by omega) ?_
    split
    · exact or_lt hm (by omega)
    · exact hm
theorem near_lt (q : DQ) (K : Nat) : near q K < 2 ^ q.2.length := nearFrom_lt (by omega) (Nat.two_pow_pos _)

/-- The variables of a single atom. -/
theorem qbits_pow {i : Nat} : ∀ {xs : List DA} {m k j : Nat} {a : DA}, xs[j]? = some a → i = k + j → qbits (2 ^ i) m k xs = vbits m a.2
  | [], m, k, j, a, h, _ => by simp at h
  | x :: t, m, k, 0, a, h, hi => by
    simp at h; subst h
    obtain rfl : i = k := by omega
    rw [qbits, bitAt_testBit, Nat.testBit_two_pow_self, if_pos rfl]
    have : ∀ (xs : List DA) (m l : Nat), i < l → qbits (2 ^ i) m l xs = m := by
      intro xs
      induction xs with
      | nil => intro m l _; rfl
      | cons y ys ih => intro m l hl; rw [qbits, bitAt_testBit, Nat.testBit_two_pow_of_ne (by omega)]; simp only [Bool.false_eq_true, if_false]; exact ih m (l + 1) (by omega)
    exact this t _ _ (by omega)
  | x :: t, m, k, j + 1, a, h, hi => by
    rw [qbits, bitAt_testBit, Nat.testBit_two_pow_of_ne (by omega)]
    simp only [Bool.false_eq_true, if_false]
    exact qbits_pow (j := j) (by simpa using h) (by omega)
theorem bitsOf_pow {q : DQ} {j : Nat} {a : DA} (h : q.2[j]? = some a) : bitsOf q (2 ^ j) = vbits 0 a.2 := qbits_pow h (by omega)

/-- Some variable of an atom is among a mask's, said in both ways. -/
theorem both_pos {q : DQ} {n : Nat} (hq : QOk q n) {a : DA} (ha : a ∈ q.2) (K : Nat) : decide (0 < (both a.2 (varsOf q K)).length) = decide (vbits 0 a.2 &&& bitsOf q K ≠ 0) := by
  have hv := hq.vars a ha
  have hn := hq.le
  rw [Bool.eq_iff_iff]
  simp only [decide_eq_true_eq]
  constructor
  · intro h
    obtain ⟨x, hx⟩ := List.exists_mem_of_length_pos h
    simp only [both, List.mem_filter] at hx
    have h1 := hv x hx.1
    obtain ⟨v, rfl⟩ := Int.eq_ofNat_of_zero_le h1.1
    rw [varsOf_has q (by omega)] at hx
    intro e
    have h2 : (vbits 0 a.2 &&& bitsOf q K).testBit v = true := by
      rw [Nat.testBit_and, vbits_test (fun y hy => (hv y hy).1), hx.2]
      simp [has, hx.1]
    rw [e] at h2
    simp at h2
  · intro h
    obtain ⟨v, hv2⟩ := Nat.exists_testBit_of_ne_zero h
    rw [Nat.testBit_and, Bool.and_eq_true, vbits_test (fun y hy => (hv y hy).1)] at hv2
    simp only [Nat.zero_testBit, Bool.false_or] at hv2
    have hm : (v : Int) ∈ a.2 := by simpa [has] using hv2.1
    have h1 := hv _ hm
    refine List.length_pos_of_mem (a := (v : Int)) ?_
    simp only [both, List.mem_filter]
    exact ⟨hm, by rw [varsOf_has q (by omega)]; exact hv2.2⟩

/-- The lowest bit of a mask. -/
def lowB (K : Nat) : Nat := if K % 2 = 1 then 1 else if K % 4 = 2 then 2 else if K % 8 = 4 then 4 else if K % 16 = 8 then 8 else 0
/-- One step more. -/
def stepM (q : DQ) (K g : Nat) : Nat := g ||| (near q g &&& K)
def iterM (q : DQ) (K : Nat) : Nat → Nat → Nat
  | 0, g => g
  | k + 1, g => iterM q K k (stepM q K g)
/-- Whether the atoms of a mask hang together (so said also of the empty mask). -/
def joined (q : DQ) (K : Nat) : Bool := decide (iterM q K q.2.length (lowB K) = K)
/-- How many bits. -/
def pc (x : Nat) : Nat := x % 2 + x / 2 % 2 + x / 4 % 2 + x / 8 % 2
theorem pc_lt : ∀ a, a < 16 → ∀ b, b < 16 → a ||| b ≠ a → pc a < pc (a ||| b) := by decide +kernel
theorem pc_le : ∀ a, a < 16 → ∀ b, b < 16 → a ||| b = b → pc a ≤ pc b := by decide +kernel
theorem pc_len : ∀ n, n < 5 → ∀ K, K < 16 → K < 2 ^ n → pc K ≤ n := by decide +kernel
theorem low_facts : ∀ K, K < 16 → lowB K ||| K = K ∧ lowB K < 16 ∧ (K ≠ 0 → pc (lowB K) = 1) := by decide +kernel
theorem or_sub : ∀ g, g < 16 → ∀ K, K < 16 → ∀ x, x < 16 → g ||| K = K → (g ||| (x &&& K)) ||| K = K := by decide +kernel
theorem sub_lt : ∀ g, g < 16 → ∀ K, K < 16 → g ||| K = K → g ≤ K := by decide +kernel
theorem stepM_lt {q : DQ} {K g : Nat} (hq : q.2.length ≤ 4) (hg : g < 16) : stepM q K g < 16 := by
  have h1 := near_lt q g
  have h2 := Nat.lt_of_lt_of_le h1 (pow_le16 hq)
  exact Nat.or_lt_two_pow (n := 4) hg (Nat.lt_of_le_of_lt Nat.and_le_left h2)
theorem stepM_sub {q : DQ} {K g : Nat} (hq : q.2.length ≤ 4) (hg : g < 16) (hK : K < 16) (h : g ||| K = K) : stepM q K g ||| K = K :=
  or_sub g hg K hK _ (Nat.lt_of_lt_of_le (near_lt q g) (pow_le16 hq)) h
theorem iterM_fix {q : DQ} {K g : Nat} (h : stepM q K g = g) : ∀ k, iterM q K k g = g
  | 0 => rfl
  | k + 1 => by rw [iterM, h]; exact iterM_fix h k
theorem iterM_lt {q : DQ} {K : Nat} (hq : q.2.length ≤ 4) : ∀ k g, g < 16 → iterM q K k g < 16
  | 0, g, h => h
  | k + 1, g, h => iterM_lt hq k _ (stepM_lt hq h)
/-- A step that brings something in brings at least one bit; there are no more than the mask's. -/
theorem step_room {q : DQ} {K g i : Nat} (hq : q.2.length ≤ 4) (hg : g < 16) (hK : K < 2 ^ q.2.length) (hs : g ||| K = K) (hi : i + 1 ≤ pc g) (hne : stepM q K g ≠ g) : i + 2 ≤ pc (stepM q K g) ∧ i + 2 ≤ q.2.length := by
  have hK16 := Nat.lt_of_lt_of_le hK (pow_le16 hq)
  have hn := Nat.lt_of_lt_of_le (near_lt q g) (pow_le16 hq)
  have h1 := pc_lt g hg (near q g &&& K) (Nat.lt_of_le_of_lt Nat.and_le_left hn) hne
  have h2 := pc_le _ (stepM_lt hq hg) K hK16 (stepM_sub hq hg hK16 hs)
  have h3 := pc_len q.2.length (by omega) K hK16 hK
  unfold stepM at *
  omega
/-- IsConnected of what is valid. -/
def conn (q : DQ) (K : Nat) : Bool := decide (K ≠ 0) && joined q K
/-- The masks up to some that hang together. -/
def connTo (q : DQ) : Nat → List Int
  | 0 => []
  | m + 1 => connTo q m ++ (if joined q (m + 1) then [((m + 1 : Nat) : Int)] else [])
theorem connTo_len (q : DQ) : ∀ m, (connTo q m).length ≤ m
  | 0 => by simp [connTo]
  | m + 1 => by have := connTo_len q m; simp only [connTo, List.length_append]; split <;> simp <;> omega
theorem connTo_yes {q : DQ} {m : Nat} (h : joined q (m + 1) = true) : connTo q (m + 1) = connTo q m ++ [((m + 1 : Nat) : Int)] := by rw [connTo, h]; rfl
theorem connTo_no {q : DQ} {m : Nat} (h : joined q (m + 1) = false) : connTo q (m + 1) = connTo q m := by rw [connTo, h]; simp
/-- ConnectedMasks. -/
def connMasks (q : DQ) : List Int := connTo q (fullMask q).toNat
end Go.Proofs.Ytehcjdbljdpmbaa

/- Contracts: the variables of a mask. -/
namespace Go.Proofs.Ytehcjdbljdpmbaa
open Go.RowKit
set_option linter.unusedVariables false
set_option linter.unusedSimpArgs false
set_option synthInstance.maxSize 2000
set_option synthInstance.maxHeartbeats 400000

set_option maxHeartbeats 1000000 in
theorem l7Bits_any (cs : List Value) (x : DQ) (K n : Nat) (w : World) (h : rQ.rep w cs x) (hq : QOk x n) (hK : K < 16) :
    Calls Try.prog 97 #[.agg cs.toArray, .int .i64 K] w fun e w' => e = .returned (.int .i64 (bitsOf x K)) ∧ Below w.heap.size w w' := by
  obtain ⟨ub, un, uc, rfl, hi, g1⟩ := rQ_open h
  clear h hi
  obtain ⟨i, xs⟩ := x
  simp only at g1
  have t0 := rS_sl g1
  have hl := t0.len
  have hn4 := hq.le
  have hl4 := hq.len
  simp only at hl4
  have hun : un ≤ 4 := by omega
  have HQ := Lib.hid hq
  have HB := Lib.hid (show bitsOf (i, xs) K = qbits K 0 0 (xs.drop 0) by simp [bitsOf])
  clear hq hl4
  have hb0 : Below w.heap.size w w := Below.refl _ _
  go_enter Try.func97, Try.ntmps97
  obtain ⟨w1, hw1⟩ : ∃ W, W = w.alloc (.cells #[.int .i64 i, .slice ub un uc] 46) := ⟨_, rfl⟩
  have z1 : Below w.heap.size w w1 := by rw [hw1]; exact (Below.refl _ _).alloc (Nat.le_refl _) _
  have s1 : w1.heap.size = w.heap.size + 1 := by rw [hw1]; simp
  have hb1 := on hb0 z1
  have b_0 : w1.cell? ⟨w.heap.size, 0, none⟩ = some (.int .i64 i) := by rw [hw1]; exact box_cell (Below.refl _ _) rfl
  have b_1 : w1.cell? ⟨w.heap.size, 1, none⟩ = some (.slice ub un uc) := by rw [hw1]; exact box_cell (Below.refl _ _) rfl
  have raw1_b_0 := b_0
  have raw1_b_1 := b_1
  rw [hw1] at raw1_b_0 raw1_b_1
  go_wp2_with fail
  rw [← hw1]
  clear hw1
  clear raw1_b_0 raw1_b_1
  go_loopw [5, 6] (fun s k wr => ∃ j m : Nat, j ≤ un ∧ m < 2 ^ n ∧ k = .int .i64 j ∧ s = .int .i64 m ∧ Hid (bitsOf (i, xs) K = qbits K m j (xs.drop j)) ∧ Drew w1 wr) (fun _ k _ => un - (intOf k).toNat)
  case atStart => exact ⟨0, 0, Nat.zero_le _, Nat.two_pow_pos _, rfl, rfl, HB.out, Drew.refl _⟩
  case round =>
    obtain ⟨j, m, hj, hm, rfl, rfl, hE, hdr⟩ := hrel
    obtain ⟨wo, rfl⟩ : ∃ W, W = wr := ⟨_, rfl⟩
    have hlc := hdr
    replace hdr : Below w1.heap.size w1 wo := hdr.below _
    have s2 := hdr.size
    have hb2 := on hb1 hdr
    replace b_0 := (hdr.cell (p := ⟨w.heap.size, 0, none⟩) (by simp only []; omega)).trans b_0
    replace b_1 := (hdr.cell (p := ⟨w.heap.size, 1, none⟩) (by simp only []; omega)).trans b_1
    by_cases hlt : j < un
    · obtain ⟨b1, o1, cs, x, rfl, hx, hr, hc⟩ := t0.at hlt
      obtain ⟨s, vs⟩ := x
      obtain ⟨vb, vn, vc, rfl, hs, g2⟩ := rA_open hr
      simp only at hs g2
      have i0 := rI_ints g2
      have hvl := i0.len
      have hvs := i0.small
      have e_lt : b1 < w.heap.size := cell_lt (hc 0 _ rfl)
      have e_0 : wo.cell? ⟨b1, o1 + j * 2, none⟩ = some (.string s) := (hb2.cell (p := ⟨b1, o1 + j * 2, none⟩) e_lt).trans (by have h9 := hc 0 _ rfl; rw [← Nat.add_assoc] at h9; exact h9)
      have e_1 : wo.cell? ⟨b1, o1 + j * 2 + 1, none⟩ = some (.slice vb vn vc) := (hb2.cell (p := ⟨b1, o1 + j * 2 + 1, none⟩) e_lt).trans (by have h9 := hc 1 _ rfl; rw [← Nat.add_assoc] at h9; exact h9)
      have HA := Lib.hid (hE.out.trans (qbits_at hx.out))
      have HV := Lib.hid (HQ.out.vars _ (List.mem_of_getElem? hx.out))
      clear hc t0 hr hl hx hE HB
      simp only at HA HV
      have hbt := bit_test K j (by omega)
      cases hb : bitAt K j with
      | true =>
        rw [hb] at HA hbt
        replace HA : Hid (bitsOf (i, xs) K = qbits K (vbits m (vs.drop 0)) (j + 1) (xs.drop (j + 1))) := Lib.hid (by rw [HA.out]; simp)
        clear hb
        go_wp2_with fail
        go_loopw [5, 7] (fun s k wr => ∃ i' m : Nat, i' ≤ vn ∧ m < 2 ^ n ∧ k = .int .i64 i' ∧ s = .int .i64 m ∧ Hid (bitsOf (i, xs) K = qbits K (vbits m (vs.drop i')) (j + 1) (xs.drop (j + 1))) ∧ Drew wo wr) (fun _ k _ => vn - (intOf k).toNat)
        case atStart => exact ⟨0, m, Nat.zero_le _, hm, rfl, rfl, HA.out, Drew.refl _⟩
        case round =>
          obtain ⟨i', m, hi, hm, rfl, rfl, hE, hdr⟩ := hrel
          have hlo := hdr
          replace hdr : Below wo.heap.size wo wr := hdr.below _
          have s3 := hdr.size
          have hb3 := on hb2 hdr
          replace b_0 := (hdr.cell (p := ⟨w.heap.size, 0, none⟩) (by simp only []; omega)).trans b_0
          replace b_1 := (hdr.cell (p := ⟨w.heap.size, 1, none⟩) (by simp only []; omega)).trans b_1
          replace e_0 := (hdr.cell (p := ⟨b1, o1 + j * 2, none⟩) (by simp only []; omega)).trans e_0
          replace e_1 := (hdr.cell (p := ⟨b1, o1 + j * 2 + 1, none⟩) (by simp only []; omega)).trans e_1
          have hm16 := pow_le16 hn4
          by_cases hlv : i' < vn
          · obtain ⟨b2, o2, v, rfl, hc, hv, hv1, hv2⟩ := i0.get hlv
            have v0_lt : b2 < w.heap.size := cell_lt hc
            have v0 : wr.cell? ⟨b2, o2 + i', none⟩ = some (.int .i64 v) := (hb3.cell (p := ⟨b2, o2 + i', none⟩) v0_lt).trans hc
            clear hc
            have hvr := HV.out v (by rw [← hv.out]; exact List.getD_eq_getElem?_getD (l := vs) ▸ (by rw [List.getElem?_eq_getElem (by omega)]; exact List.getElem_mem _))
            obtain ⟨v, rfl⟩ := Int.eq_ofNat_of_zero_le hvr.1
            have hvn : v < n := by omega
            have HE := Lib.hid (hE.out.trans (show _ = qbits K (vbits (m ||| 2 ^ v) (vs.drop (i' + 1))) (j + 1) (xs.drop (j + 1)) by rw [vbits_at (by omega) hv.out]))
            have hmo := or_lt hm hvn
            clear i0 hvl hvr hv hE
            go_wp2_with fail
            go_roundw
            case rel => exact ⟨i' + 1, m ||| 2 ^ v, by omega, hmo, by go_num, by show Value.int _ _ = _; rw [or_pow (by omega) (by omega)], HE.out, hlo⟩
            case measure => simp [intOf]; omega
          · have HE := Lib.hid (show bitsOf (i, xs) K = qbits K m (j + 1) (xs.drop (j + 1)) by rw [hE.out, vbits_end (by omega)])
            clear i0 hvl hE
            go_wp2_with fail
            go_roundw
            case rel => exact ⟨j + 1, m, by omega, hm, by go_num, rfl, HE.out, hlc.trans hlo⟩
            case measure => simp [intOf]; omega
      | false =>
        rw [hb] at HA hbt
        replace HA : Hid (bitsOf (i, xs) K = qbits K m (j + 1) (xs.drop (j + 1))) := Lib.hid (by rw [HA.out]; simp)
        clear hb
        go_wp2_with fail
        go_loopw [5, 7] (fun s k wr => k = .int .i64 0 ∧ s = .int .i64 m ∧ wr = wo) (fun _ _ _ => 0)
        case atStart => exact ⟨rfl, rfl, rfl⟩
        case round =>
          obtain ⟨rfl, rfl, rfl⟩ := hrel
          clear i0 hvl
          by_cases hv0 : 0 < vn
          all_goals
            go_wp2_with fail
            go_roundw
            case rel => exact ⟨j + 1, m, by omega, hm, by go_num, rfl, HA.out, hlc⟩
            case measure => simp [intOf]; omega
    · have HE := Lib.hid (hE.out.trans (qbits_end (by omega)))
      clear t0 hl hE HB
      go_wp2_with fail
      go_ret
      exact ⟨ret_int (by rw [HE.out]), hb2⟩

set_option maxHeartbeats 1000000 in
theorem l7List_any (M : Nat) (w : World) (hM : M < 16) :
    Calls Try.prog 96 #[.int .i64 M] w fun e w' => ∃ b n c, e = .returned (.slice b n c) ∧ OwnInts w.heap.size w' (.slice b n c) n (bitsTo M 4) ∧ Below w.heap.size w w' := by
  go_enter Try.func96, Try.ntmps96
  go_wp2
  go_loopw [3, 4] (fun v i wr => ∃ (j : Nat), j ≤ 4 ∧ i = .int .i64 j ∧ ∃ n, OwnInts w.heap.size wr v n (bitsTo M j) ∧ Below w.heap.size w wr) (fun _ i _ => 4 - (intOf i).toNat)
  case atStart => exact ⟨0, Nat.zero_le _, rfl, 0, own_empty (Nat.le_refl _), (Below.refl _ _).alloc (Nat.le_refl _) _⟩
  case round =>
    obtain ⟨j, hj, rfl, n, hown, hbl⟩ := hrel
    have hsz := hbl.size
    have hn4 : n ≤ 4 := by have := hown.len; have := bitsTo_len M j; omega
    by_cases hlt : j < 4
    · cases hbit : bitAt M j with
      | true =>
        have ht := bit_test M j (by omega)
        rw [hbit] at ht
        have HB := Lib.hid hbit
        clear hbit
        go_wp2_with ((at_builtin; refine wpList_app1 _ _ _ _ _ _ hown hbl hsz ⟨by omega, by omega⟩ (by omega) rfl rfl rfl rfl ?_; intro v' w1 hown' hb' hsz'))
        rw [← bitsTo_yes HB.out] at hown'
        go_roundw
        case rel => exact ⟨j + 1, by omega, by go_num, n + 1, hown', hb'⟩
        case measure => simp [intOf]; omega
      | false =>
        have ht := bit_test M j (by omega)
        rw [hbit] at ht
        rw [← bitsTo_no hbit] at hown
        have HO := Lib.hid hown
        clear hbit hown
        go_wp2_with fail
        go_roundw
        case rel => exact ⟨j + 1, by omega, by go_num, n, HO.out, hbl⟩
        case measure => simp [intOf]; omega
    · obtain rfl : j = 4 := by omega
      obtain ⟨a, cap, rfl, _⟩ := own_form hown.row
      go_wp2
      go_ret
      exact ⟨_, _, _, rfl, hown, hbl⟩

set_option maxHeartbeats 1000000 in
theorem maskVars_spec (cs : List Value) (x : DQ) (k : Int) (w : World) (h : rQ.rep w cs x) :
    Calls Try.prog 71 #[.agg cs.toArray, .int .i64 k] w fun e w' => ∃ u, e = .returned u ∧ Own oI w.heap.size w'.heap.size w' [u] (maskVars x k) ∧ Below w.heap.size w w' := by
  obtain ⟨ub, un, uc, rfl⟩ := rQ_form h
  have hb0 : Below w.heap.size w w := Below.refl _ _
  go_enter Try.func71, Try.ntmps71
  obtain ⟨w1, hw1⟩ : ∃ W, W = w.alloc (.cells #[.int .i64 x.1, .slice ub un uc] 46) := ⟨_, rfl⟩
  have z1 : Below w.heap.size w w1 := by rw [hw1]; exact (Below.refl _ _).alloc (Nat.le_refl _) _
  have s1 : w1.heap.size = w.heap.size + 1 := by rw [hw1]; simp
  have hb1 := on hb0 z1
  have b_0 : w1.cell? ⟨w.heap.size, 0, none⟩ = some (.int .i64 x.1) := by rw [hw1]; exact box_cell (Below.refl _ _) rfl
  have b_1 : w1.cell? ⟨w.heap.size, 1, none⟩ = some (.slice ub un uc) := by rw [hw1]; exact box_cell (Below.refl _ _) rfl
  have raw1_b_0 := b_0
  have raw1_b_1 := b_1
  rw [hw1] at raw1_b_0 raw1_b_1
  go_wp2_with fail
  rw [← hw1]
  clear hw1
  clear raw1_b_0 raw1_b_1
  refine (maskOk_spec _ x k _ (rQ.mono h hb1)).mono ?_
  rintro e w2 ⟨rfl, z2⟩
  have s3 := z2.size
  have hb3 := on hb1 z2
  replace b_0 := (z2.cell (p := ⟨w.heap.size, 0, none⟩) (by simp only []; omega)).trans b_0
  replace b_1 := (z2.cell (p := ⟨w.heap.size, 1, none⟩) (by simp only []; omega)).trans b_1
  by_cases hv : maskOkB x k = true
  case neg =>
    replace hv : maskOkB x k = false := by simpa using hv
    have HE := Lib.hid (maskVars_no hv)
    go_wp2_with fail
    go_ret
    exact ⟨_, rfl, by rw [HE.out]; exact ((own_empty (Nat.le_refl _)).own).mono (by omega) (Nat.le_refl _), hb3.trans ((Below.refl _ _).alloc (by omega) _)⟩
  obtain ⟨K, rfl, hK⟩ := maskOkB_lt hv
  obtain ⟨n, hq⟩ := QOk.of (maskOkB_valid hv)
  have HE := Lib.hid (maskVars_yes hv)
  have HK := pow_le16 hq.len
  have hK16 : K < 16 := by omega
  clear hK HK
  go_wp2_with fail
  refine (l7Bits_any _ x K n _ (rQ.mono h hb3) hq hK16).mono ?_
  rintro e w4 ⟨rfl, z4⟩
  have s5 := z4.size
  have hb5 := on hb3 z4
  replace b_0 := (z4.cell (p := ⟨w.heap.size, 0, none⟩) (by simp only []; omega)).trans b_0
  replace b_1 := (z4.cell (p := ⟨w.heap.size, 1, none⟩) (by simp only []; omega)).trans b_1
  have hb16 : bitsOf x K < 16 := Nat.lt_of_lt_of_le (hq.bits_lt K) (pow_le16 hq.le)
  have HQ := Lib.hid hq
  clear hq
  go_wp2_with fail
  refine (l7List_any _ _ hb16).mono ?_
  rintro e w9 ⟨b, n9, c, rfl, ho, z9⟩
  have s6 := z9.size
  have hb6 := on hb5 z9
  replace b_0 := (z9.cell (p := ⟨w.heap.size, 0, none⟩) (by simp only []; omega)).trans b_0
  replace b_1 := (z9.cell (p := ⟨w.heap.size, 1, none⟩) (by simp only []; omega)).trans b_1
  go_wp2_with fail
  go_ret
  exact ⟨_, rfl, by rw [HE.out]; exact ho.own.mono (by omega) (Nat.le_refl _), hb6⟩

end Go.Proofs.Ytehcjdbljdpmbaa

/- Plain facts: splits of connected masks, and how many join trees. -/
namespace Go.Proofs.Ytehcjdbljdpmbaa
open Go.RowKit
set_option linter.unusedVariables false
set_option linter.unusedSimpArgs false
set_option synthInstance.maxSize 2000
set_option synthInstance.maxHeartbeats 400000

/-- Whether m is a part of K, and both it and the rest hang together. -/
def splitB (q : DQ) (K m : Nat) : Bool := decide (m &&& K = m) && (joined q m && joined q (K - m))
def splitsTo (q : DQ) (K : Nat) : Nat → List Int
  | 0 => []
  | m + 1 => splitsTo q K m ++ (if splitB q K (m + 1) then [((m + 1 : Nat) : Int)] else [])
theorem splitsTo_len (q : DQ) (K : Nat) : ∀ m, (splitsTo q K m).length ≤ m
  | 0 => by simp [splitsTo]
  | m + 1 => by have := splitsTo_len q K m; simp only [splitsTo, List.length_append]; split <;> simp <;> omega
theorem splitsTo_yes {q : DQ} {K m : Nat} (h : splitB q K (m + 1) = true) : splitsTo q K (m + 1) = splitsTo q K m ++ [((m + 1 : Nat) : Int)] := by rw [splitsTo, h]; rfl
theorem splitsTo_no {q : DQ} {K m : Nat} (h : splitB q K (m + 1) = false) : splitsTo q K (m + 1) = splitsTo q K m := by rw [splitsTo, h]; simp
theorem splitsTo_mem {q : DQ} {K : Nat} : ∀ {m : Nat} {x : Int}, x ∈ splitsTo q K m → ∃ y : Nat, x = y ∧ 1 ≤ y ∧ y ≤ m ∧ splitB q K y = true
  | 0, x, h => by simp [splitsTo] at h
  | m + 1, x, h => by
    simp only [splitsTo, List.mem_append] at h
    rcases h with h | h
    · obtain ⟨y, h1, h2, h3, h4⟩ := splitsTo_mem h; exact ⟨y, h1, h2, by omega, h4⟩
    · split at h
      · rename_i hb; simp only [List.mem_singleton] at h; exact ⟨m + 1, h, by omega, Nat.le_refl _, hb⟩
      · simp at h
theorem splitsTo_has {q : DQ} {K : Nat} : ∀ {m y : Nat}, 1 ≤ y → y ≤ m → splitB q K y = true → ((y : Nat) : Int) ∈ splitsTo q K m
  | 0, y, h1, h2, _ => by omega
  | m + 1, y, h1, h2, h3 => by
    simp only [splitsTo, List.mem_append]
    rcases Nat.lt_or_ge m y with h | h
    · obtain rfl : y = m + 1 := by omega
      right; rw [h3]; simp
    · exact .inl (splitsTo_has h1 h h3)
/-- Parts of a mask. -/
theorem part_facts' : ∀ K, K < 16 → ∀ x, x < 16 → (decide (x &&& K = x) && !decide (x = 0) && !decide (x = K)) = true → (decide (pc x < pc K) && decide (pc (K - x) < pc K) && decide (1 ≤ pc x) && decide (1 ≤ pc (K - x)) && decide (x < K)) = true := by decide +kernel
theorem part_facts (K : Nat) (hK : K < 16) (x : Nat) (hx : x < 16) (h1 : x &&& K = x) (h2 : x ≠ 0) (h3 : x ≠ K) : pc x < pc K ∧ pc (K - x) < pc K ∧ 1 ≤ pc x ∧ 1 ≤ pc (K - x) ∧ x < K := by
  have h := part_facts' K hK x hx (by simp [h1, h2, h3])
  simp only [Bool.and_eq_true, decide_eq_true_eq] at h
  exact ⟨h.1.1.1.1, h.1.1.1.2, h.1.1.2, h.1.2, h.2⟩
theorem pc_one : ∀ K, K < 16 → pc K ≤ 1 → K &&& (K - 1) = 0 := by decide +kernel
theorem pc_zero : ∀ K, K < 16 → K ≠ 0 → 1 ≤ pc K := by decide +kernel

/-- How many join trees a mask has; f: how deep we look. -/
def cntT (q : DQ) : Nat → Nat → Nat
  | 0, _ => 0
  | f + 1, K => if conn q K = false then 0 else if K &&& (K - 1) = 0 then 1 else ((splitsTo q K (K - 1)).map (fun x => cntT q f x.toNat * cntT q f (K - x.toNat))).sum
def bndT : Nat → Nat
  | 0 => 1
  | p + 1 => 15 * (bndT p * bndT p)
theorem sum_bound {α : Type} {g : α → Nat} {B : Nat} : ∀ {l : List α}, (∀ x ∈ l, g x ≤ B) → (l.map g).sum ≤ l.length * B
  | [], _ => by simp
  | x :: t, h => by
    have h1 := h x (by simp)
    have h2 := sum_bound (fun y hy => h y (List.mem_cons_of_mem x hy))
    simp only [List.map_cons, List.sum_cons, List.length_cons, Nat.add_mul, Nat.one_mul]
    omega
theorem bndT_pos : ∀ p, 1 ≤ bndT p
  | 0 => Nat.le_refl _
  | p + 1 => by have := bndT_pos p; have := Nat.mul_le_mul this this; simp only [bndT]; omega
theorem cntT_bound (q : DQ) : ∀ (p f K : Nat), K < 16 → pc K ≤ p + 1 → cntT q f K ≤ bndT p
  | p, 0, K, _, _ => by simp [cntT]
  | 0, f + 1, K, hK, hp => by
    rw [cntT]
    split
    · simp
    · rw [if_pos (pc_one K hK hp)]; exact Nat.le_refl _
  | p + 1, f + 1, K, hK, hp => by
    rw [cntT]
    split
    · simp
    · split
      · exact bndT_pos _
      · refine Nat.le_trans (sum_bound (B := bndT p * bndT p) (fun x hx => ?_)) ?_
        · obtain ⟨y, rfl, h1, h2, h3⟩ := splitsTo_mem hx
          simp only [splitB, Bool.and_eq_true, decide_eq_true_eq] at h3
          obtain ⟨f1, f2, _⟩ := part_facts K hK y (by omega) h3.1 (by omega) (by omega)
          simp only [Int.toNat_natCast]
          exact Nat.mul_le_mul (cntT_bound q p f y (by omega) (by omega)) (cntT_bound q p f (K - y) (by omega) (by omega))
        · have := splitsTo_len q K (K - 1)
          exact Nat.mul_le_mul (by omega) (Nat.le_refl _)
theorem cntT_small (q : DQ) (f K : Nat) (hK : K < 16) : cntT q f K ≤ 170859375 := by
  have h1 := pc_len 4 (by omega) K hK hK
  have h2 := cntT_bound q 3 f K hK (by omega)
  have h3 : bndT 3 = 170859375 := by decide
  omega
/-- Enough depth is enough. -/
theorem cntT_deep (q : DQ) : ∀ (f g K : Nat), K < 16 → K < f → K < g → cntT q f K = cntT q g K
  | 0, _, K, _, h, _ => by omega
  | _ + 1, 0, K, _, _, h => by omega
  | f + 1, g + 1, K, hK, hf, hg => by
    rw [cntT, cntT]
    split
    · rfl
    · split
      · rfl
      · congr 1
        apply List.map_congr_left
        intro x hx
        obtain ⟨y, rfl, h1, h2, h3⟩ := splitsTo_mem hx
        simp only [splitB, Bool.and_eq_true, decide_eq_true_eq] at h3
        obtain ⟨_, _, _, _, f5⟩ := part_facts K hK y (by omega) h3.1 (by omega) (by omega)
        simp only [Int.toNat_natCast]
        rw [cntT_deep q f g y (by omega) (by omega) (by omega), cntT_deep q f g (K - y) (by omega) (by omega) (by omega)]
/-- The number of join trees. -/
def treesN (q : DQ) (K : Nat) : Nat := cntT q 16 K
theorem treesN_eq (q : DQ) (K : Nat) : treesN q K = if conn q K = false then 0 else if K &&& (K - 1) = 0 then 1 else ((splitsTo q K (K - 1)).map (fun x => cntT q 15 x.toNat * cntT q 15 (K - x.toNat))).sum := by
  show cntT q (15 + 1) K = _
  exact cntT.eq_2 q K 15
theorem treesN_no {q : DQ} {K : Nat} (h : conn q K = false) : treesN q K = 0 := by rw [treesN_eq, if_pos h]
theorem treesN_one {q : DQ} {K : Nat} (h : conn q K = true) (h1 : K &&& (K - 1) = 0) : treesN q K = 1 := by rw [treesN_eq, if_neg (by simp [h]), if_pos h1]
theorem treesN_sum {q : DQ} {K : Nat} (hK : K < 16) (h : conn q K = true) (h1 : K &&& (K - 1) ≠ 0) : treesN q K = ((splitsTo q K (K - 1)).map (fun x => treesN q x.toNat * treesN q (K - x.toNat))).sum := by
  rw [treesN_eq, if_neg (by simp [h]), if_neg h1]
  refine congrArg List.sum (List.map_congr_left (fun x hx => ?_))
  obtain ⟨y, rfl, h2, h3, h4⟩ := splitsTo_mem hx
  rw [Int.toNat_natCast, cntT_deep q 15 16 y (by omega) (by omega) (by omega), cntT_deep q 15 16 (K - y) (by omega) (by omega) (by omega)]
  rfl
theorem treesN_small (q : DQ) (K : Nat) (hK : K < 16) : treesN q K ≤ 170859375 := cntT_small q 16 K hK
end Go.Proofs.Ytehcjdbljdpmbaa

/- Contracts: the variables of a mask, by the program; shared variables. -/
namespace Go.Proofs.Ytehcjdbljdpmbaa
open Go.RowKit
set_option linter.unusedVariables false
set_option linter.unusedSimpArgs false
set_option synthInstance.maxSize 2000
set_option synthInstance.maxHeartbeats 400000

theorem own_empty' {B : Nat} {W : World} {g : Nat} (hB : B ≤ W.heap.size) (hg : W.heap.size = g) : OwnInts B (W.alloc (.cells #[] 3)) (.slice (some ⟨g, 0, none⟩) 0 0) 0 [] := by
  subst hg; exact own_empty hB

theorem wpList_app1g {B : Nat} {w0 W : World} {ops : Array Oper} {rest : List Oper} {o : Oper} {a : Act} {Q : Exit → Act → World → Prop}
    (s x : Operand) (v : Value) (n g : Nat) (xs : List Int) (u : Int)
    (hown : OwnInts B W v n xs) (hb : Below B w0 W) (hB : B ≤ W.heap.size) (hu : I64 u) (hn : n ≤ 1000000000000) (hg : W.heap.size = g)
    (hgd : o.guard = none) (ho : o.op = .call { callee := .builtin .append, args := #[s, x], argTypes := #[24, 24] })
    (hs : a.eval s = v) (hx : a.eval x = .slice (some ⟨g, 0, none⟩) 1 1)
    (h : ∀ v' w', OwnInts B w' v' (n + 1) (xs ++ [u]) → Below B w0 w' → B ≤ w'.heap.size → wpList Try.prog ops Q rest (a.put o.dst v') w') :
    wpList Try.prog ops Q (o :: rest) a (W.alloc (.cells #[.int .i64 u] 3)) := by
  subst hg
  exact wpList_app1 s x v n xs u hown hb hB hu hn hgd ho hs hx h

set_option maxHeartbeats 2000000 in
theorem variables_any (cs : List Value) (x : DQ) (K n : Nat) (w : World) (h : rQ.rep w cs x) (hq : QOk x n) (hK : K < 16) :
    Calls Try.prog 98 #[.agg cs.toArray, .int .i64 K] w fun e w' => ∃ u, e = .returned u ∧ Own oI w.heap.size w'.heap.size w' [u] (varsOf x K) ∧ Below w.heap.size w w' := by
  obtain ⟨ub, un, uc, rfl, hi, g1⟩ := rQ_open h
  clear h hi
  obtain ⟨i, xs⟩ := x
  simp only at g1
  have t0 := rS_sl g1
  have hl := t0.len
  have hn4 := hq.le
  have hl4 := hq.len
  have hcnt := hq.cnt
  simp only at hl4 hcnt
  subst hcnt
  have hun : un ≤ 4 := by omega
  have HQ := Lib.hid hq
  obtain ⟨M, hM⟩ : ∃ M, M = bitsOf ((n : Int), xs) K := ⟨_, rfl⟩
  have HV := Lib.hid (show bitsTo M n = varsOf ((n : Int), xs) K by rw [hq.varsOf K, hM])
  have HS := Lib.hid (show ∀ v, bitAt M v = someFrom K v 0 (xs.drop 0) by intro v; rw [hM]; exact hq.some K v)
  clear hq hl4 hM
  have hb0 : Below w.heap.size w w := Below.refl _ _
  go_enter Try.func98, Try.ntmps98
  obtain ⟨w1, hw1⟩ : ∃ W, W = w.alloc (.cells #[.int .i64 n, .slice ub un uc] 46) := ⟨_, rfl⟩
  have z1 : Below w.heap.size w w1 := by rw [hw1]; exact (Below.refl _ _).alloc (Nat.le_refl _) _
  have s1 : w1.heap.size = w.heap.size + 1 := by rw [hw1]; simp
  have hb1 := on hb0 z1
  have b_0 : w1.cell? ⟨w.heap.size, 0, none⟩ = some (.int .i64 n) := by rw [hw1]; exact box_cell (Below.refl _ _) rfl
  have b_1 : w1.cell? ⟨w.heap.size, 1, none⟩ = some (.slice ub un uc) := by rw [hw1]; exact box_cell (Below.refl _ _) rfl
  have raw1_b_0 := b_0
  have raw1_b_1 := b_1
  rw [hw1] at raw1_b_0 raw1_b_1
  go_wp2_with fail
  rw [← hw1]
  clear hw1
  clear raw1_b_0 raw1_b_1
  go_loopw [5, 6] (fun s k wr => ∃ j q : Nat, j ≤ n ∧ k = .int .i64 j ∧ OwnInts w1.heap.size wr s q (bitsTo M j) ∧ Below w1.heap.size w1 wr) (fun _ k _ => n - (intOf k).toNat)
  case atStart => exact ⟨0, 0, Nat.zero_le _, rfl, own_empty' (Nat.le_refl _) (by omega), (Below.refl _ _).alloc (Nat.le_refl _) _⟩
  case round =>
    obtain ⟨j, q, hj, rfl, hown, hdr⟩ := hrel
    obtain ⟨wo, rfl⟩ : ∃ W, W = wr := ⟨_, rfl⟩
    have hlc := hdr
    have s2 := hdr.size
    have hb2 := on hb1 hdr
    replace b_0 := (hdr.cell (p := ⟨w.heap.size, 0, none⟩) (by simp only []; omega)).trans b_0
    replace b_1 := (hdr.cell (p := ⟨w.heap.size, 1, none⟩) (by simp only []; omega)).trans b_1
    have hq4 : q ≤ 4 := by have := hown.len; have := bitsTo_len M j; omega
    by_cases hlt : j < n
    · go_wp2_with fail
      obtain ⟨a, cap, rfl, hqs, hqa⟩ := own_form hown.row
      go_loopw [5, 19] (fun s k wr => ∃ i' : Nat, i' ≤ un ∧ k = .int .i64 i' ∧ s = .slice a q cap ∧ Hid (bitAt M j = someFrom K j i' (xs.drop i')) ∧ Below wo.heap.size wo wr) (fun _ k _ => un - (intOf k).toNat)
      case atStart => exact ⟨0, Nat.zero_le _, rfl, rfl, HS.out j, Below.refl _ _⟩
      case round =>
        obtain ⟨i', hi, rfl, rfl, hE, hdr⟩ := hrel
        have hld := hdr
        have s3 := hdr.size
        have hb3 := on hb2 hdr
        replace b_0 := (hdr.cell (p := ⟨w.heap.size, 0, none⟩) (by simp only []; omega)).trans b_0
        replace b_1 := (hdr.cell (p := ⟨w.heap.size, 1, none⟩) (by simp only []; omega)).trans b_1
        replace hlc := on hlc hdr
        replace hown := hown.below hdr
        by_cases hlv : i' < un
        · obtain ⟨b1, o1, cs, x, rfl, hx, hr, hc⟩ := t0.at hlv
          obtain ⟨s, vs⟩ := x
          obtain ⟨vb, vn, vc, rfl, hs, g2⟩ := rA_open hr
          simp only at hs g2
          have e_lt : b1 < w.heap.size := cell_lt (hc 0 _ rfl)
          have e_0 : wr.cell? ⟨b1, o1 + i' * 2, none⟩ = some (.string s) := (hb3.cell (p := ⟨b1, o1 + i' * 2, none⟩) e_lt).trans (by have h9 := hc 0 _ rfl; rw [← Nat.add_assoc] at h9; exact h9)
          have e_1 : wr.cell? ⟨b1, o1 + i' * 2 + 1, none⟩ = some (.slice vb vn vc) := (hb3.cell (p := ⟨b1, o1 + i' * 2 + 1, none⟩) e_lt).trans (by have h9 := hc 1 _ rfl; rw [← Nat.add_assoc] at h9; exact h9)
          have HA := Lib.hid (hE.out.trans (someFrom_at hx.out))
          clear hc t0 hr hl hx hE HV HS
          simp only at HA
          obtain ⟨w4, hw4⟩ : ∃ W, W = wr.alloc (.cells #[.string s, .slice vb vn vc] 87) := ⟨_, rfl⟩
          have z4 : Below wr.heap.size wr w4 := by rw [hw4]; exact (Below.refl _ _).alloc (Nat.le_refl _) _
          have s4 : w4.heap.size = wr.heap.size + 1 := by rw [hw4]; simp
          have hb4 := on hb3 z4
          have old4_b_0 := b_0
          have old4_b_1 := b_1
          have old4_e_0 := e_0
          have old4_e_1 := e_1
          replace b_0 := (z4.cell (p := ⟨w.heap.size, 0, none⟩) (by simp only []; omega)).trans b_0
          replace b_1 := (z4.cell (p := ⟨w.heap.size, 1, none⟩) (by simp only []; omega)).trans b_1
          replace hlc := on hlc z4
          replace hown := hown.below z4
          replace hld := on hld z4
          replace e_0 := (z4.cell (p := ⟨b1, o1 + i' * 2, none⟩) (by simp only []; omega)).trans e_0
          replace e_1 := (z4.cell (p := ⟨b1, o1 + i' * 2 + 1, none⟩) (by simp only []; omega)).trans e_1
          have p_0 : w4.cell? ⟨wr.heap.size, 0, none⟩ = some (.string s) := by rw [hw4]; exact box_cell (Below.refl _ _) rfl
          have p_1 : w4.cell? ⟨wr.heap.size, 1, none⟩ = some (.slice vb vn vc) := by rw [hw4]; exact box_cell (Below.refl _ _) rfl
          have raw4_b_0 := b_0
          have raw4_b_1 := b_1
          have raw4_e_0 := e_0
          have raw4_e_1 := e_1
          have raw4_p_0 := p_0
          have raw4_p_1 := p_1
          rw [hw4] at raw4_b_0 raw4_b_1 raw4_e_0 raw4_e_1 raw4_p_0 raw4_p_1
          have hbt := bit_test K i' (by omega)
          have hlt2 : (j : Int) < n := by omega
          cases hb : bitAt K i' with
          | true =>
            rw [hb] at HA hbt
            have i0 := (rI_ints g2).below hb4
            clear hb
            go_wp2_with fail
            rw [← hw4]
            clear hw4
            clear old4_b_0 old4_b_1 old4_e_0 old4_e_1 raw4_b_0 raw4_b_1 raw4_e_0 raw4_e_1 raw4_p_0 raw4_p_1
            refine (contains_any _ _ _ _ _ _ i0).mono ?_
            rintro e w' ⟨rfl, rfl⟩
            obtain ⟨t, ht⟩ : ∃ t, t = has vs (j : Int) := ⟨_, rfl⟩
            rw [← ht] at HA ⊢
            clear ht i0
            cases t with
            | true =>
              have HB := Lib.hid (bitsTo_yes (show bitAt M j = true by rw [HA.out]; simp))
              have hsz := hlc.size
              go_wp2_with ((at_builtin; refine wpList_app1g _ _ _ _ _ _ _ hown hlc hsz ⟨by omega, by omega⟩ (by omega) (by omega) rfl rfl rfl rfl ?_; intro v' w9 hown' hb' hsz'))
              rw [← HB.out] at hown'
              go_roundw
              case rel => exact ⟨j + 1, q + 1, by omega, by go_num, hown', hb'⟩
              case measure => simp [intOf]; omega
            | false =>
              have HE := Lib.hid (show bitAt M j = someFrom K j (i' + 1) (xs.drop (i' + 1)) by rw [HA.out]; simp)
              go_wp2_with fail
              go_roundw
              case rel => exact ⟨i' + 1, by omega, by go_num, rfl, HE.out, hld⟩
              case measure => simp [intOf]; omega
          | false =>
            rw [hb] at HA hbt
            have HE := Lib.hid (show bitAt M j = someFrom K j (i' + 1) (xs.drop (i' + 1)) by rw [HA.out]; simp)
            clear hb HA
            go_wp2_with fail
            rw [← hw4]
            clear hw4
            clear old4_b_0 old4_b_1 old4_e_0 old4_e_1 raw4_b_0 raw4_b_1 raw4_e_0 raw4_e_1 raw4_p_0 raw4_p_1
            go_roundw
            case rel => exact ⟨i' + 1, by omega, by go_num, rfl, HE.out, hld⟩
            case measure => simp [intOf]; omega
        · rw [← bitsTo_no (hE.out.trans (someFrom_end (by omega)))] at hown
          have HO := Lib.hid hown
          clear t0 hl hE hown
          go_wp2_with fail
          go_roundw
          case rel => exact ⟨j + 1, q, by omega, by go_num, HO.out, hlc⟩
          case measure => simp [intOf]; omega
    · obtain rfl : j = n := by omega
      obtain ⟨a, cap, rfl, _⟩ := own_form hown.row
      rw [HV.out] at hown
      have HO := Lib.hid (show Own oI w.heap.size wo.heap.size wo [.slice a q cap] _ from hown.own.mono (by omega) (Nat.le_refl _))
      clear t0 hl hown
      go_wp2_with fail
      go_ret
      exact ⟨_, rfl, HO.out, hb2⟩

theorem maskVars_cnt (q : DQ) (k : Int) : cnt_I (maskVars q k) ≤ 4 := maskVars_len q k

set_option maxHeartbeats 1000000 in
theorem both_any (u v : Value) (xs ys : List Int) (w : World) (h : rI.rep w [u] xs) (h' : rI.rep w [v] ys) (hn : xs.length ≤ 1048576) :
    Calls Try.prog 99 #[u, v] w fun e w' => ∃ u, e = .returned u ∧ Own oI w.heap.size w'.heap.size w' [u] (both xs ys) ∧ Below w.heap.size w w' := by
  obtain ⟨a, cap, rfl, _, _, hi⟩ := rI_open h
  obtain ⟨a', cap', rfl, _, _, hi'⟩ := rI_open h'
  clear h h'
  obtain ⟨n, hl⟩ : ∃ n, xs.length = n := ⟨_, rfl⟩
  rw [hl] at hi hn ⊢
  go_enter Try.func99, Try.ntmps99
  go_wp2
  go_loopw [5, 11] (fun v i wr => ∃ (j : Nat), j ≤ n ∧ i = .int .i64 j ∧ ∃ q, OwnInts w.heap.size wr v q (both (xs.take j) ys) ∧ Below w.heap.size w wr) (fun _ i _ => n - (intOf i).toNat)
  case atStart => exact ⟨0, Nat.zero_le _, rfl, 0, by rw [List.take_zero]; exact own_empty (Nat.le_refl _), (Below.refl _ _).alloc (Nat.le_refl _) _⟩
  case round =>
    obtain ⟨j, hj, rfl, q, hown, hbl⟩ := hrel
    have hsz := hbl.size
    replace hi := hi.below hbl
    replace hi' := hi'.below hbl
    have hq : q ≤ 1048576 := by have := hown.len; have := both_len (xs.take j) ys; have : (xs.take j).length ≤ j := List.length_take_le _ _; omega
    by_cases hlt : j < n
    · obtain ⟨b1, off, x, rfl, hc, hx, hx1, hx2⟩ := hi.get hlt
      have hcall := contains_any _ _ cap' _ x _ hi'
      obtain ⟨t, ht⟩ : ∃ t, t = has ys x := ⟨_, rfl⟩
      rw [← ht] at hcall
      have HC := Lib.hid hcall
      clear hcall
      cases t with
      | true =>
        have HB := Lib.hid (both_yes (show j < xs.length by omega) hx.out ht.symm)
        clear ht hi hl
        go_wp2_with (first
          | (go_at_call 94; refine (HC.out).mono ?_; rintro e w' ⟨rfl, rfl⟩)
          | (at_builtin; refine wpList_app1 _ _ _ _ _ _ hown hbl hsz ⟨by omega, by omega⟩ (by omega) rfl rfl rfl rfl ?_; intro v' w1 hown' hb' hsz'))
        rw [← HB.out] at hown'
        go_roundw
        case rel => exact ⟨j + 1, by omega, by go_num, q + 1, hown', hb'⟩
        case measure => simp [intOf]; omega
      | false =>
        rw [← both_no (show j < xs.length by omega) hx.out ht.symm] at hown
        have HO := Lib.hid hown
        clear ht hi hl hown
        go_wp2_with (first
          | (go_at_call 94; refine (HC.out).mono ?_; rintro e w' ⟨rfl, rfl⟩))
        go_roundw
        case rel => exact ⟨j + 1, by omega, by go_num, q, HO.out, hbl⟩
        case measure => simp [intOf]; omega
    · obtain rfl : j = n := by omega
      obtain ⟨a', cap2, rfl, _⟩ := own_form hown.row
      rw [both_end (by omega)] at hown
      have HO := Lib.hid hown
      clear hown hi hi' hl
      go_wp2
      go_ret
      exact ⟨_, rfl, HO.out.own, hbl⟩

end Go.Proofs.Ytehcjdbljdpmbaa

/- Contracts: neighbors and connected masks. -/
namespace Go.Proofs.Ytehcjdbljdpmbaa
open Go.RowKit
set_option linter.unusedVariables false
set_option linter.unusedSimpArgs false
set_option synthInstance.maxSize 2000
set_option synthInstance.maxHeartbeats 400000

set_option maxHeartbeats 2000000 in
theorem neighbors_any (cs : List Value) (x : DQ) (K n : Nat) (w : World) (h : rQ.rep w cs x) (hq : QOk x n) (hK : K < 16) :
    Calls Try.prog 73 #[.agg cs.toArray, .int .i64 K] w fun e w' => e = .returned (.int .i64 (near x K)) ∧ Below w.heap.size w w' := by
  obtain ⟨ub, un, uc, rfl, hi, g1⟩ := rQ_open h
  clear hi
  have t0 := rS_sl g1
  have hl := t0.len
  have hl4 := hq.len
  have hun : un ≤ 4 := by omega
  have HQ := Lib.hid hq
  have HB := Lib.hid (show near x K = nearFrom K (bitsOf x K) 0 0 (x.2.drop 0) by simp [near])
  clear hl4
  have hb0 : Below w.heap.size w w := Below.refl _ _
  go_enter Try.func73, Try.ntmps73
  obtain ⟨w1, hw1⟩ : ∃ W, W = w.alloc (.cells #[.int .i64 x.1, .slice ub un uc] 46) := ⟨_, rfl⟩
  have z1 : Below w.heap.size w w1 := by rw [hw1]; exact (Below.refl _ _).alloc (Nat.le_refl _) _
  have s1 : w1.heap.size = w.heap.size + 1 := by rw [hw1]; simp
  have hb1 := on hb0 z1
  have b_0 : w1.cell? ⟨w.heap.size, 0, none⟩ = some (.int .i64 x.1) := by rw [hw1]; exact box_cell (Below.refl _ _) rfl
  have b_1 : w1.cell? ⟨w.heap.size, 1, none⟩ = some (.slice ub un uc) := by rw [hw1]; exact box_cell (Below.refl _ _) rfl
  have raw1_b_0 := b_0
  have raw1_b_1 := b_1
  rw [hw1] at raw1_b_0 raw1_b_1
  go_wp2_with fail
  rw [← hw1]
  clear hw1
  clear raw1_b_0 raw1_b_1
  refine (variables_any _ x K n _ (rQ.mono h hb1) hq hK).mono ?_
  rintro e w9 ⟨u, rfl, ho, z9⟩
  obtain ⟨vb9, vn9, vc9, rfl⟩ := oI_form1 ho
  have s2 := z9.size
  have hb2 := on hb1 z9
  replace b_0 := (z9.cell (p := ⟨w.heap.size, 0, none⟩) (by simp only []; omega)).trans b_0
  replace b_1 := (z9.cell (p := ⟨w.heap.size, 1, none⟩) (by simp only []; omega)).trans b_1
  clear hq
  go_wp2_with fail
  go_loopw [6, 15] (fun s k wr => ∃ j m : Nat, j ≤ un ∧ m < 2 ^ un ∧ k = .int .i64 j ∧ s = .int .i64 m ∧ Hid (near x K = nearFrom K (bitsOf x K) m j (x.2.drop j)) ∧ Below w9.heap.size w9 wr) (fun _ k _ => un - (intOf k).toNat)
  case atStart => exact ⟨0, 0, Nat.zero_le _, Nat.two_pow_pos _, rfl, rfl, HB.out, Below.refl _ _⟩
  case round =>
    obtain ⟨j, m, hj, hm, rfl, rfl, hE, hdr⟩ := hrel
    obtain ⟨wo, rfl⟩ : ∃ W, W = wr := ⟨_, rfl⟩
    have hlc := hdr
    have s3 := hdr.size
    have hb3 := on hb2 hdr
    replace b_0 := (hdr.cell (p := ⟨w.heap.size, 0, none⟩) (by simp only []; omega)).trans b_0
    replace b_1 := (hdr.cell (p := ⟨w.heap.size, 1, none⟩) (by simp only []; omega)).trans b_1
    replace ho := ho.below hdr (by omega)
    have hm16 := pow_le16 hun
    by_cases hlt : j < un
    · obtain ⟨b1, o1, cs, y, rfl, hx, hr, hc⟩ := t0.at hlt
      obtain ⟨s, vs⟩ := y
      obtain ⟨vb, vn, vc, rfl, hs, g2⟩ := rA_open hr
      simp only at hs g2
      have e_lt : b1 < w.heap.size := cell_lt (hc 0 _ rfl)
      have e_0 : wo.cell? ⟨b1, o1 + j * 2, none⟩ = some (.string s) := (hb3.cell (p := ⟨b1, o1 + j * 2, none⟩) e_lt).trans (by have h9 := hc 0 _ rfl; rw [← Nat.add_assoc] at h9; exact h9)
      have e_1 : wo.cell? ⟨b1, o1 + j * 2 + 1, none⟩ = some (.slice vb vn vc) := (hb3.cell (p := ⟨b1, o1 + j * 2 + 1, none⟩) e_lt).trans (by have h9 := hc 1 _ rfl; rw [← Nat.add_assoc] at h9; exact h9)
      have HA := Lib.hid (hE.out.trans (nearFrom_at hx.out))
      have HX := Lib.hid (List.mem_of_getElem? hx.out)
      have HV := Lib.hid (both_pos HQ.out HX.out K)
      have HVL := Lib.hid (HQ.out.vlen _ HX.out)
      clear hc t0 hr hl hx hE HB
      simp only at HA HV HVL
      obtain ⟨w4, hw4⟩ : ∃ W, W = wo.alloc (.cells #[.string s, .slice vb vn vc] 87) := ⟨_, rfl⟩
      have z4 : Below wo.heap.size wo w4 := by rw [hw4]; exact (Below.refl _ _).alloc (Nat.le_refl _) _
      have s4 : w4.heap.size = wo.heap.size + 1 := by rw [hw4]; simp
      have hb4 := on hb3 z4
      have old4_b_0 := b_0
      have old4_b_1 := b_1
      have old4_e_0 := e_0
      have old4_e_1 := e_1
      replace b_0 := (z4.cell (p := ⟨w.heap.size, 0, none⟩) (by simp only []; omega)).trans b_0
      replace b_1 := (z4.cell (p := ⟨w.heap.size, 1, none⟩) (by simp only []; omega)).trans b_1
      replace ho := ho.below z4 (by omega)
      replace hlc := on hlc z4
      replace e_0 := (z4.cell (p := ⟨b1, o1 + j * 2, none⟩) (by simp only []; omega)).trans e_0
      replace e_1 := (z4.cell (p := ⟨b1, o1 + j * 2 + 1, none⟩) (by simp only []; omega)).trans e_1
      have p_0 : w4.cell? ⟨wo.heap.size, 0, none⟩ = some (.string s) := by rw [hw4]; exact box_cell (Below.refl _ _) rfl
      have p_1 : w4.cell? ⟨wo.heap.size, 1, none⟩ = some (.slice vb vn vc) := by rw [hw4]; exact box_cell (Below.refl _ _) rfl
      have raw4_b_0 := b_0
      have raw4_b_1 := b_1
      have raw4_e_0 := e_0
      have raw4_e_1 := e_1
      have raw4_p_0 := p_0
      have raw4_p_1 := p_1
      rw [hw4] at raw4_b_0 raw4_b_1 raw4_e_0 raw4_e_1 raw4_p_0 raw4_p_1
      have hbt := bit_test0 K j (by omega)
      cases hb : bitAt K j with
      | true =>
        rw [hb] at HA hbt
        replace HA : Hid (near x K = nearFrom K (bitsOf x K) m (j + 1) (x.2.drop (j + 1))) := Lib.hid (by rw [HA.out]; simp)
        simp only [Bool.not_true] at hbt
        clear hb
        go_wp2_with fail
        rw [← hw4]
        clear hw4
        clear old4_b_0 old4_b_1 old4_e_0 old4_e_1 raw4_b_0 raw4_b_1 raw4_e_0 raw4_e_1 raw4_p_0 raw4_p_1
        go_roundw
        case rel => exact ⟨j + 1, m, by omega, hm, by go_num, rfl, HA.out, hlc⟩
        case measure => simp [intOf]; omega
      | false =>
        rw [hb] at HA hbt
        simp only [Bool.not_false, Bool.true_and] at HA hbt
        clear hb
        go_wp2_with fail
        rw [← hw4]
        clear hw4
        clear old4_b_0 old4_b_1 old4_e_0 old4_e_1 raw4_b_0 raw4_b_1 raw4_e_0 raw4_e_1 raw4_p_0 raw4_p_1
        refine (both_any _ _ vs (varsOf x K) _ (rI.mono g2 hb4) (ho.rd reads_I) (by have := HVL.out; omega)).mono ?_
        rintro e w8 ⟨u, rfl, ho2, z8⟩
        obtain ⟨vb8, vn8, vc8, rfl⟩ := oI_form1 ho2
        have hv8 := (rI_ints (ho2.rd reads_I)).len
        have s5 := z8.size
        have hb5 := on hb4 z8
        replace b_0 := (z8.cell (p := ⟨w.heap.size, 0, none⟩) (by simp only []; omega)).trans b_0
        replace b_1 := (z8.cell (p := ⟨w.heap.size, 1, none⟩) (by simp only []; omega)).trans b_1
        replace ho := ho.below z8 (by omega)
        replace hlc := on hlc z8
        replace e_0 := (z8.cell (p := ⟨b1, o1 + j * 2, none⟩) (by simp only []; omega)).trans e_0
        replace e_1 := (z8.cell (p := ⟨b1, o1 + j * 2 + 1, none⟩) (by simp only []; omega)).trans e_1
        replace p_0 := (z8.cell (p := ⟨wo.heap.size, 0, none⟩) (by simp only []; omega)).trans p_0
        replace p_1 := (z8.cell (p := ⟨wo.heap.size, 1, none⟩) (by simp only []; omega)).trans p_1
        obtain ⟨t, ht⟩ : ∃ t, t = decide (vbits 0 vs &&& bitsOf x K ≠ 0) := ⟨_, rfl⟩
        have hd : decide (0 < vn8) = t := by rw [ht, ← HV.out, hv8]
        rw [← ht] at HA
        have HT := Lib.hid ht
        clear ht hv8 ho2
        cases t with
        | true =>
          replace HA : Hid (near x K = nearFrom K (bitsOf x K) (m ||| 2 ^ j) (j + 1) (x.2.drop (j + 1))) := Lib.hid (by rw [HA.out]; simp)
          have hmo := or_lt hm hlt
          go_wp2_with fail
          go_roundw
          case rel => exact ⟨j + 1, m ||| 2 ^ j, by omega, hmo, by go_num, by show Value.int _ _ = _; rw [or_pow (by omega) (by omega)], HA.out, hlc⟩
          case measure => simp [intOf]; omega
        | false =>
          replace HA : Hid (near x K = nearFrom K (bitsOf x K) m (j + 1) (x.2.drop (j + 1))) := Lib.hid (by rw [HA.out]; simp)
          go_wp2_with fail
          go_roundw
          case rel => exact ⟨j + 1, m, by omega, hm, by go_num, rfl, HA.out, hlc⟩
          case measure => simp [intOf]; omega
    · have HE := Lib.hid (hE.out.trans (nearFrom_end (by omega)))
      clear t0 hl hE HB ho
      go_wp2_with fail
      go_ret
      exact ⟨ret_int (by rw [HE.out]), hb3⟩

set_option maxHeartbeats 2000000 in
theorem l8Near_any (cs : List Value) (x : DQ) (K n : Nat) (w : World) (h : rQ.rep w cs x) (hq : QOk x n) (hK : K < 16) :
    Calls Try.prog 74 #[.agg cs.toArray, .int .i64 K] w fun e w' => e = .returned (.int .i64 (near x K)) ∧ Below w.heap.size w w' := by
  obtain ⟨ub, un, uc, rfl, hi, g1⟩ := rQ_open h
  clear hi
  have t0 := rS_sl g1
  have hl := t0.len
  have hl4 := hq.len
  have hun : un ≤ 4 := by omega
  have HQ := Lib.hid hq
  have HB := Lib.hid (show near x K = nearFrom K (bitsOf x K) 0 0 (x.2.drop 0) by simp [near])
  have hB16 : bitsOf x K < 16 := Nat.lt_of_lt_of_le (hq.bits_lt K) (pow_le16 hq.le)
  clear hl4
  have hb0 : Below w.heap.size w w := Below.refl _ _
  go_enter Try.func74, Try.ntmps74
  obtain ⟨w1, hw1⟩ : ∃ W, W = w.alloc (.cells #[.int .i64 x.1, .slice ub un uc] 46) := ⟨_, rfl⟩
  have z1 : Below w.heap.size w w1 := by rw [hw1]; exact (Below.refl _ _).alloc (Nat.le_refl _) _
  have s1 : w1.heap.size = w.heap.size + 1 := by rw [hw1]; simp
  have hb1 := on hb0 z1
  have b_0 : w1.cell? ⟨w.heap.size, 0, none⟩ = some (.int .i64 x.1) := by rw [hw1]; exact box_cell (Below.refl _ _) rfl
  have b_1 : w1.cell? ⟨w.heap.size, 1, none⟩ = some (.slice ub un uc) := by rw [hw1]; exact box_cell (Below.refl _ _) rfl
  have raw1_b_0 := b_0
  have raw1_b_1 := b_1
  rw [hw1] at raw1_b_0 raw1_b_1
  go_wp2_with fail
  rw [← hw1]
  clear hw1
  clear raw1_b_0 raw1_b_1
  refine (l7Bits_any _ x K n _ (rQ.mono h hb1) hq hK).mono ?_
  rintro e w2 ⟨rfl, z2⟩
  have s3 := z2.size
  have hb3 := on hb1 z2
  replace b_0 := (z2.cell (p := ⟨w.heap.size, 0, none⟩) (by simp only []; omega)).trans b_0
  replace b_1 := (z2.cell (p := ⟨w.heap.size, 1, none⟩) (by simp only []; omega)).trans b_1
  clear hq
  obtain ⟨B, hB⟩ : ∃ B, B = bitsOf x K := ⟨_, rfl⟩
  rw [← hB] at HB hB16 ⊢
  clear hB
  go_wp2_with fail
  go_loopw [5, 7] (fun s k wr => ∃ j m : Nat, j ≤ un ∧ m < 2 ^ un ∧ k = .int .i64 j ∧ s = .int .i64 m ∧ Hid (near x K = nearFrom K B m j (x.2.drop j)) ∧ Below w2.heap.size w2 wr) (fun _ k _ => un - (intOf k).toNat)
  case atStart => exact ⟨0, 0, Nat.zero_le _, Nat.two_pow_pos _, rfl, rfl, HB.out, Below.refl _ _⟩
  case round =>
    obtain ⟨j, m, hj, hm, rfl, rfl, hE, hdr⟩ := hrel
    obtain ⟨wo, rfl⟩ : ∃ W, W = wr := ⟨_, rfl⟩
    have hlc := hdr
    have s4 := hdr.size
    have hb4 := on hb3 hdr
    replace b_0 := (hdr.cell (p := ⟨w.heap.size, 0, none⟩) (by simp only []; omega)).trans b_0
    replace b_1 := (hdr.cell (p := ⟨w.heap.size, 1, none⟩) (by simp only []; omega)).trans b_1
    have hm16 := pow_le16 hun
    by_cases hlt : j < un
    · obtain ⟨y, hy⟩ : ∃ y, x.2[j]? = some y := ⟨_, List.getElem?_eq_getElem (by omega)⟩
      have HA := Lib.hid (hE.out.trans (nearFrom_at hy))
      have HP := Lib.hid (bitsOf_pow hy)
      have hP16 : bitsOf x (2 ^ j) < 16 := Nat.lt_of_lt_of_le (HQ.out.bits_lt _) (pow_le16 HQ.out.le)
      clear t0 hl hE HB hy
      have hbt := bit_test0 K j (by omega)
      cases hb : bitAt K j with
      | true =>
        rw [hb] at HA hbt
        replace HA : Hid (near x K = nearFrom K B m (j + 1) (x.2.drop (j + 1))) := Lib.hid (by rw [HA.out]; simp)
        simp only [Bool.not_true] at hbt
        clear hb
        go_wp2_with fail
        go_quiet (fail)
        go_wp2_with fail
        go_roundw
        case rel => exact ⟨j + 1, m, by omega, hm, by go_num, rfl, HA.out, hlc.trans (Drew.below ⟨_, rfl⟩ _)⟩
        case measure => simp [intOf]; omega
      | false =>
        rw [hb] at HA hbt
        simp only [Bool.not_false, Bool.true_and] at HA hbt
        rw [← HP.out] at HA
        clear hb HP
        have h2j : 2 ^ j < 16 := Nat.lt_of_lt_of_le (Nat.pow_lt_pow_right (by decide) hlt) hm16
        have hw1 := wrap_pow (show j ≤ 16 by omega)
        obtain ⟨J, hJ⟩ : ∃ J, J = 2 ^ j := ⟨_, rfl⟩
        obtain ⟨C, hC⟩ : ∃ C, C = bitsOf x (2 ^ j) := ⟨_, rfl⟩
        have hJ16 : J < 16 := by rw [hJ]; exact h2j
        have hcall := fun W (hW : rQ.rep W [.int .i64 x.1, .slice ub un uc] x) => l7Bits_any _ x J n W hW HQ.out hJ16
        rw [← hC] at HA hP16
        rw [← hJ] at hC hw1
        clear h2j
        have hw2 := hw1
        rw [← IntWalk.i64_left] at hw2
        rw [← hC] at hcall
        have hba := bits_and_nat C B (by omega) (by omega)
        obtain ⟨t, ht⟩ : ∃ t, t = decide (C &&& B ≠ 0) := ⟨_, rfl⟩
        have hne : (((C &&& B : Nat) : Int) != 0) = t := by
          rw [ht, Bool.eq_iff_iff]
          simp
        rw [← ht] at HA
        have HC := Lib.hid hcall
        have HJ := Lib.hid hJ
        clear hcall ht hC hJ
        go_wp2_with fail
        go_region_held3 (fun W => W.cell? ⟨w.heap.size, 0, none⟩ = some (.int .i64 x.1) ∧ W.cell? ⟨w.heap.size, 1, none⟩ = some (.slice ub un uc)) (first | exact ⟨b_0, b_1⟩ | assumption) (first | (go_at_call 97; (with_reducible refine (HC.out _ (rQ.mono h hb4.drew)).mono ?_); rintro e w5 ⟨rfl, z5⟩; replace z5 : Below wo.heap.size wo w5 := on (Below.refl _ _).drew z5; have sz5 := z5.size; have hS5 := (⟨(z5.cell (p := ⟨w.heap.size, 0, none⟩) (by simp only []; omega)).trans b_0, (z5.cell (p := ⟨w.heap.size, 1, none⟩) (by simp only []; omega)).trans b_1⟩ : (fun W => W.cell? ⟨w.heap.size, 0, none⟩ = some (.int .i64 x.1) ∧ W.cell? ⟨w.heap.size, 1, none⟩ = some (.slice ub un uc)) w5); have hx5 := on hb4 z5))
        replace z5 : Below wo.heap.size wo w5 := z5
        clear hS5 hx5
        have s6 := z5.size
        have hb6 := on hb4 z5
        replace b_0 := (z5.cell (p := ⟨w.heap.size, 0, none⟩) (by simp only []; omega)).trans b_0
        replace b_1 := (z5.cell (p := ⟨w.heap.size, 1, none⟩) (by simp only []; omega)).trans b_1
        replace hlc := on hlc z5
        clear hw2
        cases t with
        | true =>
          replace HA : Hid (near x K = nearFrom K B (m ||| 2 ^ j) (j + 1) (x.2.drop (j + 1))) := Lib.hid (by rw [HA.out]; simp)
          have hmo := or_lt hm hlt
          clear hba hne
          go_wp2_with fail
          go_roundw
          case rel => exact ⟨j + 1, m ||| 2 ^ j, by omega, hmo, by go_num, by show Value.int _ _ = _; rw [← hw1, or_pow (by omega) (by omega)], HA.out, hlc⟩
          case measure => simp [intOf]; omega
        | false =>
          replace HA : Hid (near x K = nearFrom K B m (j + 1) (x.2.drop (j + 1))) := Lib.hid (by rw [HA.out]; simp)
          clear hba hne hw1
          go_wp2_with fail
          go_roundw
          case rel => exact ⟨j + 1, m, by omega, hm, by go_num, rfl, HA.out, hlc⟩
          case measure => simp [intOf]; omega
    · have HE := Lib.hid (hE.out.trans (nearFrom_end (by omega)))
      clear t0 hl hE HB
      go_wp2_with fail
      go_ret
      exact ⟨ret_int (by rw [HE.out]), hb4⟩

end Go.Proofs.Ytehcjdbljdpmbaa

/- Contracts: shared variables. -/
namespace Go.Proofs.Ytehcjdbljdpmbaa
open Go.RowKit
set_option linter.unusedVariables false
set_option linter.unusedSimpArgs false
set_option synthInstance.maxSize 2000
set_option synthInstance.maxHeartbeats 400000

/-- SharedVariables. -/
def sharedVars (q : DQ) (a b : Int) : List Int := both (maskVars q a) (maskVars q b)

theorem shared_cnt (q : DQ) (a b : Int) : cnt_I (sharedVars q a b) ≤ 4 := Nat.le_trans (both_len _ _) (maskVars_len q a)

set_option maxHeartbeats 2000000 in
theorem shared_spec (cs : List Value) (x : DQ) (k l : Int) (w : World) (h : rQ.rep w cs x) :
    Calls Try.prog 34 #[.agg cs.toArray, .int .i64 k, .int .i64 l] w fun e w' => ∃ u, e = .returned u ∧ Own oI w.heap.size w'.heap.size w' [u] (sharedVars x k l) ∧ Below w.heap.size w w' := by
  obtain ⟨ub, un, uc, rfl⟩ := rQ_form h
  have hb0 : Below w.heap.size w w := Below.refl _ _
  have hml := maskVars_len x k
  go_enter Try.func34, Try.ntmps34
  obtain ⟨w1, hw1⟩ : ∃ W, W = w.alloc (.cells #[.int .i64 x.1, .slice ub un uc] 46) := ⟨_, rfl⟩
  have z1 : Below w.heap.size w w1 := by rw [hw1]; exact (Below.refl _ _).alloc (Nat.le_refl _) _
  have s1 : w1.heap.size = w.heap.size + 1 := by rw [hw1]; simp
  have hb1 := on hb0 z1
  have b_0 : w1.cell? ⟨w.heap.size, 0, none⟩ = some (.int .i64 x.1) := by rw [hw1]; exact box_cell (Below.refl _ _) rfl
  have b_1 : w1.cell? ⟨w.heap.size, 1, none⟩ = some (.slice ub un uc) := by rw [hw1]; exact box_cell (Below.refl _ _) rfl
  have raw1_b_0 := b_0
  have raw1_b_1 := b_1
  rw [hw1] at raw1_b_0 raw1_b_1
  obtain ⟨w2, hw2⟩ : ∃ W, W = w1.alloc (.cells #[] 3) := ⟨_, rfl⟩
  have z2 : Below w1.heap.size w1 w2 := by rw [hw2]; exact (Below.refl _ _).alloc (Nat.le_refl _) _
  have s2 : w2.heap.size = w1.heap.size + 1 := by rw [hw2]; simp
  have hb2 := on hb1 z2
  replace b_0 := (z2.cell (p := ⟨w.heap.size, 0, none⟩) (by simp only []; omega)).trans b_0
  replace b_1 := (z2.cell (p := ⟨w.heap.size, 1, none⟩) (by simp only []; omega)).trans b_1
  have ho : ∀ S, Acc 3 O.int w1.heap.size S w2.heap.size w2 (.slice (some ⟨w.heap.size + 1, 0, none⟩) 0 0) [] := fun S => by rw [hw2]; exact Acc.empty (by omega) (by simp; omega)
  obtain ⟨xs, hxs⟩ : ∃ xs, xs = maskVars x k := ⟨_, rfl⟩
  obtain ⟨ys, hys⟩ : ∃ ys, ys = maskVars x l := ⟨_, rfl⟩
  have HR := Lib.hid (show both xs ys = sharedVars x k l by rw [hxs, hys]; rfl)
  have C1 := maskVars_spec [.int .i64 x.1, .slice ub un uc] x k
  have C2 := maskVars_spec [.int .i64 x.1, .slice ub un uc] x l
  rw [← hxs] at C1 hml
  rw [← hys] at C2
  clear hxs hys
  go_wp2_with fail
  rw [← hw1]
  rw [← hw2]
  clear hw2 hw1
  clear raw1_b_0 raw1_b_1
  refine (C1 _ (rQ.mono h hb2)).mono ?_
  rintro e w11 ⟨u1, rfl, o1, z11⟩
  obtain ⟨a1, n1, c1, rfl⟩ := oI_form1 o1
  have s3 := z11.size
  have hb3 := on hb2 z11
  replace b_0 := (z11.cell (p := ⟨w.heap.size, 0, none⟩) (by simp only []; omega)).trans b_0
  replace b_1 := (z11.cell (p := ⟨w.heap.size, 1, none⟩) (by simp only []; omega)).trans b_1
  replace ho := fun S => (ho S).below z11 (by omega)
  go_wp2_with fail
  refine (C2 _ (rQ.mono h hb3)).mono ?_
  rintro e w12 ⟨u2, rfl, o2, z12⟩
  obtain ⟨a2, n2, c2, rfl⟩ := oI_form1 o2
  have s4 := z12.size
  have hb4 := on hb3 z12
  replace b_0 := (z12.cell (p := ⟨w.heap.size, 0, none⟩) (by simp only []; omega)).trans b_0
  replace b_1 := (z12.cell (p := ⟨w.heap.size, 1, none⟩) (by simp only []; omega)).trans b_1
  replace ho := fun S => (ho S).below z12 (by omega)
  replace o1 := o1.below z12 (by omega)
  clear C1 C2
  have hl := (rI_ints (o1.rd reads_I)).len
  have hn := (rI_ints (o1.rd reads_I)).small
  go_wp2_with fail
  go_loopw [7, 10] (fun v i wr => ∃ (j : Nat), j ≤ n1 ∧ i = .int .i64 j ∧ Acc 3 O.int w1.heap.size w12.heap.size wr.heap.size wr v (both (xs.take j) ys) ∧ Turn w1.heap.size (w1.heap.size + 1) w12 wr) (fun _ i _ => n1 - (intOf i).toNat)
  case atStart => exact ⟨0, Nat.zero_le _, rfl, by rw [List.take_zero]; exact (ho _).wide (Nat.le_refl _) (by omega), turn_refl _ _ _⟩
  case round =>
    obtain ⟨j, hj, rfl, hacc, hdr⟩ := hrel
    have hlc := hdr
    replace o1 := o1.turn hdr (by omega)
    replace o2 := o2.turn hdr (by omega)
    have hi := rI_ints (o1.rd reads_I)
    have hi' := rI_ints (o2.rd reads_I)
    have s5 := hdr.size
    have hb5 := hb4.trans ((hdr.below (by omega)).mono (by omega))
    replace b_0 := (hdr.cell (p := ⟨w.heap.size, 0, none⟩) (by simp only []; omega) (by simp only []; omega)).trans b_0
    replace b_1 := (hdr.cell (p := ⟨w.heap.size, 1, none⟩) (by simp only []; omega) (by simp only []; omega)).trans b_1
    have hbl : (both (xs.take j) ys).length ≤ 4 := by have h1 := both_len (xs.take j) ys; have h2 : (xs.take j).length ≤ j := List.length_take_le _ _; omega
    by_cases hlt : j < n1
    · obtain ⟨b1, off, x, rfl, hc, hx, hx1, hx2⟩ := hi.get hlt
      have hcall := l7Has_any _ _ c2 _ x wr hi'
      obtain ⟨t, ht⟩ : ∃ t, t = has ys x := ⟨_, rfl⟩
      rw [← ht] at hcall
      have HC := Lib.hid hcall
      clear hcall
      cases t with
      | true =>
        have HB := Lib.hid (both_yes (show j < xs.length by omega) hx.out ht.symm)
        clear ht hi hl o1 o2 ho
        go_wp2_with (first
          | (go_at_call 72; refine (HC.out).mono ?_; rintro e w' ⟨rfl, rfl⟩)
          | (at_builtin; refine wpList_accI _ _ _ _ _ hacc hlc rfl (by omega) (Nat.le_refl _) ⟨by omega, by omega⟩ (by omega) rfl rfl rfl rfl rfl ?_; intro v' w1 hacc' ht' hsz'))
        rw [← HB.out] at hacc'
        go_roundw
        case rel => exact ⟨j + 1, by omega, by go_num, hacc', ht'⟩
        case measure => simp [intOf]; omega
      | false =>
        rw [← both_no (show j < xs.length by omega) hx.out ht.symm] at hacc
        have HO := Lib.hid hacc
        clear ht hi hl hacc o1 o2 ho
        go_wp2_with (go_at_call 72; refine (HC.out).mono ?_; rintro e w' ⟨rfl, rfl⟩)
        go_roundw
        case rel => exact ⟨j + 1, by omega, by go_num, HO.out, hlc⟩
        case measure => simp [intOf]; omega
    · obtain rfl : j = n1 := by omega
      obtain ⟨a', n', cap2, rfl⟩ := hacc.form3
      rw [both_end (by omega), HR.out] at hacc
      have HO := Lib.hid (hacc.own (B := w.heap.size) (by omega) (by omega) (Nat.le_refl _))
      clear hacc hi hi' hl o1 o2 ho
      go_wp2_with fail
      go_ret
      exact ⟨_, rfl, HO.out, hb5⟩

end Go.Proofs.Ytehcjdbljdpmbaa

/- Contracts: connected masks. -/
namespace Go.Proofs.Ytehcjdbljdpmbaa
open Go.RowKit
set_option linter.unusedVariables false
set_option linter.unusedSimpArgs false
set_option synthInstance.maxSize 2000
set_option synthInstance.maxHeartbeats 400000

theorem low_int : ∀ K, K < 16 → bits .and .i64 ((K : Nat) : Int) (-((K : Nat) : Int)) = ((lowB K : Nat) : Int) := by decide +kernel
theorem low_zero : ∀ K : Nat, K < 16 → K ≠ 0 → ((K : Int) == 0) = false := by
  intro K _ h; rw [beq_eq_false_iff_ne]; omega

set_option maxHeartbeats 2000000 in
theorem connected_any (cs : List Value) (x : DQ) (K n : Nat) (w : World) (h : rQ.rep w cs x) (hq : QOk x n) (hK : K < 2 ^ x.2.length) :
    Calls Try.prog 65 #[.agg cs.toArray, .int .i64 K] w fun e w' => e = .returned (.bool (conn x K)) ∧ Below w.heap.size w w' := by
  obtain ⟨ub, un, uc, rfl⟩ := rQ_form h
  have hb0 : Below w.heap.size w w := Below.refl _ _
  have hl4 := hq.len
  have hK16 : K < 16 := Nat.lt_of_lt_of_le hK (pow_le16 hl4)
  have HQ := Lib.hid hq
  have HK := Lib.hid hK
  clear hq hK
  by_cases h0 : K = 0
  · subst h0
    have HE := Lib.hid (show conn x 0 = false by simp [conn])
    go_enter Try.func65, Try.ntmps65
    obtain ⟨w1, hw1⟩ : ∃ W, W = w.alloc (.cells #[.int .i64 x.1, .slice ub un uc] 46) := ⟨_, rfl⟩
    have z1 : Below w.heap.size w w1 := by rw [hw1]; exact (Below.refl _ _).alloc (Nat.le_refl _) _
    have s1 : w1.heap.size = w.heap.size + 1 := by rw [hw1]; simp
    have hb1 := on hb0 z1
    have b_0 : w1.cell? ⟨w.heap.size, 0, none⟩ = some (.int .i64 x.1) := by rw [hw1]; exact box_cell (Below.refl _ _) rfl
    have b_1 : w1.cell? ⟨w.heap.size, 1, none⟩ = some (.slice ub un uc) := by rw [hw1]; exact box_cell (Below.refl _ _) rfl
    have raw1_b_0 := b_0
    have raw1_b_1 := b_1
    rw [hw1] at raw1_b_0 raw1_b_1
    go_wp2_with fail
    go_ret
    exact ⟨ret_bool HE.out.symm, by first | exact hb1 | (rw [hw1] at hb1; exact hb1)⟩
  have HC := Lib.hid (show conn x K = joined x K by simp [conn, h0])
  have hz := low_zero K hK16 h0
  have hlow := low_int K hK16
  obtain ⟨l1, l2, l3⟩ := low_facts K hK16
  have l4 := l3 h0
  obtain ⟨L, hL⟩ : ∃ L, L = lowB K := ⟨_, rfl⟩
  rw [← hL] at hlow l1 l2 l4
  have HJ := Lib.hid (show joined x K = decide (iterM x K x.2.length L = K) by rw [joined, hL])
  have L1 := Lib.hid l1
  have L4 := Lib.hid l4
  clear h0 l1 l3 l4 hL
  have hlp := HQ.out.lpos
  go_enter Try.func65, Try.ntmps65
  obtain ⟨w2, hw2⟩ : ∃ W, W = w.alloc (.cells #[.int .i64 x.1, .slice ub un uc] 46) := ⟨_, rfl⟩
  have z2 : Below w.heap.size w w2 := by rw [hw2]; exact (Below.refl _ _).alloc (Nat.le_refl _) _
  have s2 : w2.heap.size = w.heap.size + 1 := by rw [hw2]; simp
  have hb2 := on hb0 z2
  have b_0 : w2.cell? ⟨w.heap.size, 0, none⟩ = some (.int .i64 x.1) := by rw [hw2]; exact box_cell (Below.refl _ _) rfl
  have b_1 : w2.cell? ⟨w.heap.size, 1, none⟩ = some (.slice ub un uc) := by rw [hw2]; exact box_cell (Below.refl _ _) rfl
  have raw2_b_0 := b_0
  have raw2_b_1 := b_1
  rw [hw2] at raw2_b_0 raw2_b_1
  go_wp2_with fail
  rw [← hw2]
  clear hw2
  clear raw2_b_0 raw2_b_1
  clear hlow
  go_loopw [5, 6] (fun s _ wr => ∃ g i : Nat, g < 16 ∧ i + 1 ≤ x.2.length ∧ s = .int .i64 g ∧ Hid (g ||| K = K ∧ i + 1 ≤ pc g) ∧ Hid (iterM x K x.2.length L = iterM x K (x.2.length - i) g) ∧ Below w2.heap.size w2 wr) (fun s _ _ => 16 - (intOf s).toNat)
  case atStart => exact ⟨L, 0, l2, hlp, rfl, Lib.hid ⟨L1.out, by rw [L4.out]; exact Nat.le_refl _⟩, rfl, Below.refl _ _⟩
  case round =>
    obtain ⟨g, i, hg, hi, rfl, hP, hE, hdr⟩ := hrel
    have hlc := hdr
    have s3 := hdr.size
    have hb3 := on hb2 hdr
    replace b_0 := (hdr.cell (p := ⟨w.heap.size, 0, none⟩) (by simp only []; omega)).trans b_0
    replace b_1 := (hdr.cell (p := ⟨w.heap.size, 1, none⟩) (by simp only []; omega)).trans b_1
    go_wp2_with fail
    refine (neighbors_any _ x g n _ (rQ.mono h hb3) HQ.out hg).mono ?_
    rintro e w4 ⟨rfl, z4⟩
    have s5 := z4.size
    have hb5 := on hb3 z4
    replace b_0 := (z4.cell (p := ⟨w.heap.size, 0, none⟩) (by simp only []; omega)).trans b_0
    replace b_1 := (z4.cell (p := ⟨w.heap.size, 1, none⟩) (by simp only []; omega)).trans b_1
    replace hlc := on hlc z4
    obtain ⟨N, hN⟩ : ∃ N, N = near x g := ⟨_, rfl⟩
    rw [← hN]
    have hN16 : N < 16 := by rw [hN]; exact Nat.lt_of_lt_of_le (near_lt x g) (pow_le16 hl4)
    have hS : stepM x K g = g ||| (N &&& K) := by rw [hN]; rfl
    have hS16 : stepM x K g < 16 := stepM_lt hl4 hg
    have ha := bits_and_nat N K (by omega) (by omega)
    have hNK : N &&& K < 16 := Nat.lt_of_le_of_lt Nat.and_le_left hN16
    have ho := bits_or_nat g (N &&& K) (by omega) (by omega)
    rw [← hS] at ho
    obtain ⟨S, hSS⟩ : ∃ S, S = stepM x K g := ⟨_, rfl⟩
    rw [← hSS] at ho hS16
    have HS := Lib.hid hSS
    clear hS hN hSS hNK
    by_cases hst : S = g
    · have HE := Lib.hid (show decide ((g : Int) = (K : Int)) = conn x K by
        rw [HC.out, HJ.out, hE.out, iterM_fix (HS.out.symm.trans hst)]
        rw [Bool.eq_iff_iff]; simp only [decide_eq_true_eq]; omega)
      rw [hst] at ho
      clear hst
      go_wp2_with fail
      go_ret
      exact ⟨ret_bool (by rw [← HE.out]; rfl), hb5⟩
    · have hroom := step_room hl4 hg HK.out hP.out.1 hP.out.2 (fun e => hst (HS.out.trans e))
      rw [← HS.out] at hroom
      have HP2 : Hid (S ||| K = K ∧ (i + 1) + 1 ≤ pc S) := Lib.hid ⟨by rw [HS.out]; exact stepM_sub hl4 hg hK16 hP.out.1, by omega⟩
      have HE2 : Hid (iterM x K x.2.length L = iterM x K (x.2.length - (i + 1)) S) := Lib.hid (by
        rw [hE.out, show x.2.length - i = (x.2.length - (i + 1)) + 1 by omega, iterM, ← HS.out])
      have hr2 := hroom.2
      have hgS : g < S := by
        have h1 : g ≤ S := by rw [HS.out]; exact Nat.left_le_or
        omega
      have hne : ((S : Int) == (g : Int)) = false := by rw [beq_eq_false_iff_ne]; omega
      clear hroom hst
      go_wp2_with fail
      go_roundw
      case rel => exact ⟨S, i + 1, hS16, by omega, rfl, HP2, HE2, hlc⟩
      case measure => simp [intOf]; omega

set_option maxHeartbeats 2000000 in
theorem joined_any (cs : List Value) (x : DQ) (K n : Nat) (w : World) (h : rQ.rep w cs x) (hq : QOk x n) (hK : K < 2 ^ x.2.length) :
    Calls Try.prog 66 #[.agg cs.toArray, .int .i64 K] w fun e w' => e = .returned (.bool (joined x K)) ∧ Below w.heap.size w w' := by
  obtain ⟨ub, un, uc, rfl, hi, g1⟩ := rQ_open h
  have hl := (rS_sl g1).len
  clear hi g1
  have hb0 : Below w.heap.size w w := Below.refl _ _
  have hl4 := hq.len
  have hK16 : K < 16 := Nat.lt_of_lt_of_le hK (pow_le16 hl4)
  have HQ := Lib.hid hq
  clear hq hK
  have hlow := low_int K hK16
  obtain ⟨l1, l2, l3⟩ := low_facts K hK16
  obtain ⟨L, hL⟩ : ∃ L, L = lowB K := ⟨_, rfl⟩
  rw [← hL] at hlow l2
  have HJ := Lib.hid (show joined x K = decide (iterM x K un L = K) by rw [joined, hL, hl])
  have hun : un ≤ 4 := by omega
  clear l1 l3 hL hl
  go_enter Try.func66, Try.ntmps66
  obtain ⟨w1, hw1⟩ : ∃ W, W = w.alloc (.cells #[.int .i64 x.1, .slice ub un uc] 46) := ⟨_, rfl⟩
  have z1 : Below w.heap.size w w1 := by rw [hw1]; exact (Below.refl _ _).alloc (Nat.le_refl _) _
  have s1 : w1.heap.size = w.heap.size + 1 := by rw [hw1]; simp
  have hb1 := on hb0 z1
  have b_0 : w1.cell? ⟨w.heap.size, 0, none⟩ = some (.int .i64 x.1) := by rw [hw1]; exact box_cell (Below.refl _ _) rfl
  have b_1 : w1.cell? ⟨w.heap.size, 1, none⟩ = some (.slice ub un uc) := by rw [hw1]; exact box_cell (Below.refl _ _) rfl
  have raw1_b_0 := b_0
  have raw1_b_1 := b_1
  rw [hw1] at raw1_b_0 raw1_b_1
  go_wp2_with fail
  rw [← hw1]
  clear hw1
  clear raw1_b_0 raw1_b_1
  clear hlow
  go_loopw [5, 6] (fun s k wr => ∃ g i : Nat, g < 16 ∧ i ≤ un ∧ k = .int .i64 i ∧ s = .int .i64 g ∧ Hid (iterM x K un L = iterM x K (un - i) g) ∧ Below w1.heap.size w1 wr) (fun _ k _ => un - (intOf k).toNat)
  case atStart => exact ⟨L, 0, l2, Nat.zero_le _, rfl, rfl, rfl, Below.refl _ _⟩
  case round =>
    obtain ⟨g, i, hg, hi, rfl, rfl, hE, hdr⟩ := hrel
    have hlc := hdr
    have s2 := hdr.size
    have hb2 := on hb1 hdr
    replace b_0 := (hdr.cell (p := ⟨w.heap.size, 0, none⟩) (by simp only []; omega)).trans b_0
    replace b_1 := (hdr.cell (p := ⟨w.heap.size, 1, none⟩) (by simp only []; omega)).trans b_1
    by_cases hlt : i < un
    · go_wp2_with fail
      refine (l8Near_any _ x g n _ (rQ.mono h hb2) HQ.out hg).mono ?_
      rintro e w3 ⟨rfl, z3⟩
      have s4 := z3.size
      have hb4 := on hb2 z3
      replace b_0 := (z3.cell (p := ⟨w.heap.size, 0, none⟩) (by simp only []; omega)).trans b_0
      replace b_1 := (z3.cell (p := ⟨w.heap.size, 1, none⟩) (by simp only []; omega)).trans b_1
      replace hlc := on hlc z3
      obtain ⟨N, hN⟩ : ∃ N, N = near x g := ⟨_, rfl⟩
      rw [← hN]
      have hN16 : N < 16 := by rw [hN]; exact Nat.lt_of_lt_of_le (near_lt x g) (pow_le16 hl4)
      have hS : stepM x K g = g ||| (N &&& K) := by rw [hN]; rfl
      have hS16 : stepM x K g < 16 := stepM_lt hl4 hg
      have ha := bits_and_nat N K (by omega) (by omega)
      have hNK : N &&& K < 16 := Nat.lt_of_le_of_lt Nat.and_le_left hN16
      have ho := bits_or_nat g (N &&& K) (by omega) (by omega)
      rw [← hS] at ho
      obtain ⟨S, hSS⟩ : ∃ S, S = stepM x K g := ⟨_, rfl⟩
      rw [← hSS] at ho hS16
      have HE2 : Hid (iterM x K un L = iterM x K (un - (i + 1)) S) := Lib.hid (by
        rw [hE.out, show un - i = (un - (i + 1)) + 1 by omega, iterM, ← hSS])
      clear hS hN hSS hNK
      go_wp2_with fail
      go_roundw
      case rel => exact ⟨S, i + 1, hS16, by omega, by go_num, rfl, HE2, hlc⟩
      case measure => simp [intOf]; omega
    · have HE := Lib.hid (show decide ((g : Int) = (K : Int)) = joined x K by
        rw [HJ.out, hE.out, show un - i = 0 by omega]
        show _ = decide (g = K)
        rw [Bool.eq_iff_iff]; simp only [decide_eq_true_eq]; omega)
      go_wp2_with fail
      go_ret
      exact ⟨ret_bool (by rw [← HE.out]; rfl), hb2⟩

end Go.Proofs.Ytehcjdbljdpmbaa

/- Contracts: neighbors and connected masks of a query. -/
namespace Go.Proofs.Ytehcjdbljdpmbaa
open Go.RowKit
set_option linter.unusedVariables false
set_option linter.unusedSimpArgs false
set_option synthInstance.maxSize 2000
set_option synthInstance.maxHeartbeats 400000

/-- NeighborMask. -/
def nearMask (q : DQ) (k : Int) : Int := if maskOkB q k then ((near q k.toNat : Nat) : Int) else 0
/-- IsConnected. -/
def isConn (q : DQ) (k : Int) : Bool := maskOkB q k && conn q k.toNat
theorem nearMask_no {q : DQ} {k : Int} (h : maskOkB q k = false) : nearMask q k = 0 := by simp [nearMask, h]
theorem nearMask_yes {q : DQ} {K : Nat} (h : maskOkB q (K : Int) = true) : nearMask q (K : Int) = ((near q K : Nat) : Int) := by simp [nearMask, h]
theorem isConn_no {q : DQ} {k : Int} (h : maskOkB q k = false) : isConn q k = false := by simp [isConn, h]
theorem isConn_yes {q : DQ} {K : Nat} (h : maskOkB q (K : Int) = true) : isConn q (K : Int) = conn q K := by simp [isConn, h]
theorem connMasks_no {q : DQ} (h : fullMask q = 0) : connMasks q = [] := by simp [connMasks, h, connTo]
theorem fullMask_nat (q : DQ) : ∃ M : Nat, fullMask q = M ∧ M < 16 ∧ (M ≠ 0 → validQ q = true ∧ M < 2 ^ q.2.length) ∧ connMasks q = connTo q M := by
  by_cases h : validQ q = true
  · obtain ⟨n, hq⟩ := QOk.of h
    have h1 := pow_le16 hq.len
    have h2 := Nat.two_pow_pos q.2.length
    refine ⟨2 ^ q.2.length - 1, fullMask_yes h, by omega, fun _ => ⟨h, by omega⟩, by rw [connMasks, fullMask_yes h]; rfl⟩
  · exact ⟨0, fullMask_no (by simpa using h), by omega, fun h => absurd rfl h, by rw [connMasks_no (fullMask_no (by simpa using h))]; rfl⟩
theorem connMasks_len (q : DQ) : (connMasks q).length ≤ 15 := by
  obtain ⟨M, _, h2, _, h4⟩ := fullMask_nat q
  rw [h4]; have := connTo_len q M; omega
theorem connMasks_cnt (q : DQ) : cnt_I (connMasks q) ≤ 15 := connMasks_len q
theorem conn_joined (q : DQ) (m : Nat) : conn q (m + 1) = joined q (m + 1) := by simp [conn]

set_option maxHeartbeats 1000000 in
theorem nearMask_impl (cs : List Value) (x : DQ) (k : Int) (w : World) (h : rQ.rep w cs x) :
    Calls Try.prog 37 #[.agg cs.toArray, .int .i64 k] w fun e w' => e = .returned (.int .i64 (nearMask x k)) ∧ Below w.heap.size w w' := by
  obtain ⟨ub, un, uc, rfl⟩ := rQ_form h
  have hb0 : Below w.heap.size w w := Below.refl _ _
  go_enter Try.func37, Try.ntmps37
  obtain ⟨w1, hw1⟩ : ∃ W, W = w.alloc (.cells #[.int .i64 x.1, .slice ub un uc] 46) := ⟨_, rfl⟩
  have z1 : Below w.heap.size w w1 := by rw [hw1]; exact (Below.refl _ _).alloc (Nat.le_refl _) _
  have s1 : w1.heap.size = w.heap.size + 1 := by rw [hw1]; simp
  have hb1 := on hb0 z1
  have b_0 : w1.cell? ⟨w.heap.size, 0, none⟩ = some (.int .i64 x.1) := by rw [hw1]; exact box_cell (Below.refl _ _) rfl
  have b_1 : w1.cell? ⟨w.heap.size, 1, none⟩ = some (.slice ub un uc) := by rw [hw1]; exact box_cell (Below.refl _ _) rfl
  have raw1_b_0 := b_0
  have raw1_b_1 := b_1
  rw [hw1] at raw1_b_0 raw1_b_1
  go_wp2_with fail
  rw [← hw1]
  clear hw1
  clear raw1_b_0 raw1_b_1
  refine (maskOk_impl _ x k _ (rQ.mono h hb1)).mono ?_
  rintro e w2 ⟨rfl, z2⟩
  have s3 := z2.size
  have hb3 := on hb1 z2
  replace b_0 := (z2.cell (p := ⟨w.heap.size, 0, none⟩) (by simp only []; omega)).trans b_0
  replace b_1 := (z2.cell (p := ⟨w.heap.size, 1, none⟩) (by simp only []; omega)).trans b_1
  by_cases hv : maskOkB x k = true
  case neg =>
    replace hv : maskOkB x k = false := by simpa using hv
    have HE := Lib.hid (nearMask_no hv)
    go_wp2_with fail
    go_ret
    exact ⟨ret_int HE.out.symm, hb3⟩
  obtain ⟨K, rfl, hK⟩ := maskOkB_lt hv
  obtain ⟨n, hq⟩ := QOk.of (maskOkB_valid hv)
  have HE := Lib.hid (nearMask_yes hv)
  have hK16 : K < 16 := Nat.lt_of_lt_of_le hK (pow_le16 hq.len)
  clear hK
  go_wp2_with fail
  refine (neighbors_any _ x K n _ (rQ.mono h hb3) hq hK16).mono ?_
  rintro e w4 ⟨rfl, z4⟩
  have s5 := z4.size
  have hb5 := on hb3 z4
  replace b_0 := (z4.cell (p := ⟨w.heap.size, 0, none⟩) (by simp only []; omega)).trans b_0
  replace b_1 := (z4.cell (p := ⟨w.heap.size, 1, none⟩) (by simp only []; omega)).trans b_1
  clear hq
  go_wp2_with fail
  go_ret
  exact ⟨ret_int HE.out.symm, hb5⟩

set_option maxHeartbeats 1000000 in
theorem nearMask_spec (cs : List Value) (x : DQ) (k : Int) (w : World) (h : rQ.rep w cs x) :
    Calls Try.prog 39 #[.agg cs.toArray, .int .i64 k] w fun e w' => e = .returned (.int .i64 (nearMask x k)) ∧ Below w.heap.size w w' := by
  obtain ⟨ub, un, uc, rfl⟩ := rQ_form h
  have hb0 : Below w.heap.size w w := Below.refl _ _
  go_enter Try.func39, Try.ntmps39
  obtain ⟨w1, hw1⟩ : ∃ W, W = w.alloc (.cells #[.int .i64 x.1, .slice ub un uc] 46) := ⟨_, rfl⟩
  have z1 : Below w.heap.size w w1 := by rw [hw1]; exact (Below.refl _ _).alloc (Nat.le_refl _) _
  have s1 : w1.heap.size = w.heap.size + 1 := by rw [hw1]; simp
  have hb1 := on hb0 z1
  have b_0 : w1.cell? ⟨w.heap.size, 0, none⟩ = some (.int .i64 x.1) := by rw [hw1]; exact box_cell (Below.refl _ _) rfl
  have b_1 : w1.cell? ⟨w.heap.size, 1, none⟩ = some (.slice ub un uc) := by rw [hw1]; exact box_cell (Below.refl _ _) rfl
  have raw1_b_0 := b_0
  have raw1_b_1 := b_1
  rw [hw1] at raw1_b_0 raw1_b_1
  go_wp2_with fail
  rw [← hw1]
  clear hw1
  clear raw1_b_0 raw1_b_1
  refine (maskOk_spec _ x k _ (rQ.mono h hb1)).mono ?_
  rintro e w2 ⟨rfl, z2⟩
  have s3 := z2.size
  have hb3 := on hb1 z2
  replace b_0 := (z2.cell (p := ⟨w.heap.size, 0, none⟩) (by simp only []; omega)).trans b_0
  replace b_1 := (z2.cell (p := ⟨w.heap.size, 1, none⟩) (by simp only []; omega)).trans b_1
  by_cases hv : maskOkB x k = true
  case neg =>
    replace hv : maskOkB x k = false := by simpa using hv
    have HE := Lib.hid (nearMask_no hv)
    go_wp2_with fail
    go_ret
    exact ⟨ret_int HE.out.symm, hb3⟩
  obtain ⟨K, rfl, hK⟩ := maskOkB_lt hv
  obtain ⟨n, hq⟩ := QOk.of (maskOkB_valid hv)
  have HE := Lib.hid (nearMask_yes hv)
  have hK16 : K < 16 := Nat.lt_of_lt_of_le hK (pow_le16 hq.len)
  clear hK
  go_wp2_with fail
  refine (l8Near_any _ x K n _ (rQ.mono h hb3) hq hK16).mono ?_
  rintro e w4 ⟨rfl, z4⟩
  have s5 := z4.size
  have hb5 := on hb3 z4
  replace b_0 := (z4.cell (p := ⟨w.heap.size, 0, none⟩) (by simp only []; omega)).trans b_0
  replace b_1 := (z4.cell (p := ⟨w.heap.size, 1, none⟩) (by simp only []; omega)).trans b_1
  clear hq
  go_wp2_with fail
  go_ret
  exact ⟨ret_int HE.out.symm, hb5⟩

set_option maxHeartbeats 1000000 in
theorem isConn_impl (cs : List Value) (x : DQ) (k : Int) (w : World) (h : rQ.rep w cs x) :
    Calls Try.prog 29 #[.agg cs.toArray, .int .i64 k] w fun e w' => e = .returned (.bool (isConn x k)) ∧ Below w.heap.size w w' := by
  obtain ⟨ub, un, uc, rfl⟩ := rQ_form h
  have hb0 : Below w.heap.size w w := Below.refl _ _
  go_enter Try.func29, Try.ntmps29
  obtain ⟨w1, hw1⟩ : ∃ W, W = w.alloc (.cells #[.int .i64 x.1, .slice ub un uc] 46) := ⟨_, rfl⟩
  have z1 : Below w.heap.size w w1 := by rw [hw1]; exact (Below.refl _ _).alloc (Nat.le_refl _) _
  have s1 : w1.heap.size = w.heap.size + 1 := by rw [hw1]; simp
  have hb1 := on hb0 z1
  have b_0 : w1.cell? ⟨w.heap.size, 0, none⟩ = some (.int .i64 x.1) := by rw [hw1]; exact box_cell (Below.refl _ _) rfl
  have b_1 : w1.cell? ⟨w.heap.size, 1, none⟩ = some (.slice ub un uc) := by rw [hw1]; exact box_cell (Below.refl _ _) rfl
  have raw1_b_0 := b_0
  have raw1_b_1 := b_1
  rw [hw1] at raw1_b_0 raw1_b_1
  go_wp2_with fail
  rw [← hw1]
  clear hw1
  clear raw1_b_0 raw1_b_1
  refine (maskOk_impl _ x k _ (rQ.mono h hb1)).mono ?_
  rintro e w2 ⟨rfl, z2⟩
  have s3 := z2.size
  have hb3 := on hb1 z2
  replace b_0 := (z2.cell (p := ⟨w.heap.size, 0, none⟩) (by simp only []; omega)).trans b_0
  replace b_1 := (z2.cell (p := ⟨w.heap.size, 1, none⟩) (by simp only []; omega)).trans b_1
  by_cases hv : maskOkB x k = true
  case neg =>
    replace hv : maskOkB x k = false := by simpa using hv
    have HE := Lib.hid (isConn_no hv)
    go_wp2_with fail
    go_ret
    exact ⟨ret_bool HE.out.symm, hb3⟩
  obtain ⟨K, rfl, hK⟩ := maskOkB_lt hv
  obtain ⟨n, hq⟩ := QOk.of (maskOkB_valid hv)
  have HE := Lib.hid (isConn_yes hv)
  go_wp2_with fail
  refine (connected_any _ x K n _ (rQ.mono h hb3) hq hK).mono ?_
  rintro e w4 ⟨rfl, z4⟩
  have s5 := z4.size
  have hb5 := on hb3 z4
  replace b_0 := (z4.cell (p := ⟨w.heap.size, 0, none⟩) (by simp only []; omega)).trans b_0
  replace b_1 := (z4.cell (p := ⟨w.heap.size, 1, none⟩) (by simp only []; omega)).trans b_1
  clear hq hK
  go_wp2_with fail
  go_ret
  exact ⟨ret_bool (by rw [HE.out]), hb5⟩

set_option maxHeartbeats 1000000 in
theorem isConn_spec (cs : List Value) (x : DQ) (k : Int) (w : World) (h : rQ.rep w cs x) :
    Calls Try.prog 30 #[.agg cs.toArray, .int .i64 k] w fun e w' => e = .returned (.bool (isConn x k)) ∧ Below w.heap.size w w' := by
  obtain ⟨ub, un, uc, rfl⟩ := rQ_form h
  have hb0 : Below w.heap.size w w := Below.refl _ _
  go_enter Try.func30, Try.ntmps30
  obtain ⟨w1, hw1⟩ : ∃ W, W = w.alloc (.cells #[.int .i64 x.1, .slice ub un uc] 46) := ⟨_, rfl⟩
  have z1 : Below w.heap.size w w1 := by rw [hw1]; exact (Below.refl _ _).alloc (Nat.le_refl _) _
  have s1 : w1.heap.size = w.heap.size + 1 := by rw [hw1]; simp
  have hb1 := on hb0 z1
  have b_0 : w1.cell? ⟨w.heap.size, 0, none⟩ = some (.int .i64 x.1) := by rw [hw1]; exact box_cell (Below.refl _ _) rfl
  have b_1 : w1.cell? ⟨w.heap.size, 1, none⟩ = some (.slice ub un uc) := by rw [hw1]; exact box_cell (Below.refl _ _) rfl
  have raw1_b_0 := b_0
  have raw1_b_1 := b_1
  rw [hw1] at raw1_b_0 raw1_b_1
  go_wp2_with fail
  rw [← hw1]
  clear hw1
  clear raw1_b_0 raw1_b_1
  refine (maskOk_spec _ x k _ (rQ.mono h hb1)).mono ?_
  rintro e w2 ⟨rfl, z2⟩
  have s3 := z2.size
  have hb3 := on hb1 z2
  replace b_0 := (z2.cell (p := ⟨w.heap.size, 0, none⟩) (by simp only []; omega)).trans b_0
  replace b_1 := (z2.cell (p := ⟨w.heap.size, 1, none⟩) (by simp only []; omega)).trans b_1
  by_cases hv : maskOkB x k = true
  case neg =>
    replace hv : maskOkB x k = false := by simpa using hv
    have HE := Lib.hid (isConn_no hv)
    go_wp2_with fail
    go_ret
    exact ⟨ret_bool HE.out.symm, hb3⟩
  obtain ⟨K, rfl, hK⟩ := maskOkB_lt hv
  obtain ⟨n, hq⟩ := QOk.of (maskOkB_valid hv)
  have HE := Lib.hid (isConn_yes hv)
  by_cases h0 : K = 0
  case pos =>
    subst h0
    have HE0 := Lib.hid (show isConn x ((0 : Nat) : Int) = false by rw [HE.out]; simp [conn])
    clear hq hK
    go_wp2_with fail
    go_ret
    exact ⟨ret_bool HE0.out.symm, hb3⟩
  have HJ := Lib.hid (show conn x K = joined x K by simp [conn, h0])
  have hpos : 0 < K := by omega
  clear h0
  go_wp2_with fail
  refine (joined_any _ x K n _ (rQ.mono h hb3) hq hK).mono ?_
  rintro e w4 ⟨rfl, z4⟩
  have s5 := z4.size
  have hb5 := on hb3 z4
  replace b_0 := (z4.cell (p := ⟨w.heap.size, 0, none⟩) (by simp only []; omega)).trans b_0
  replace b_1 := (z4.cell (p := ⟨w.heap.size, 1, none⟩) (by simp only []; omega)).trans b_1
  clear hq hK
  go_wp2_with fail
  go_ret
  exact ⟨ret_bool (by rw [HE.out, HJ.out]), hb5⟩

set_option maxHeartbeats 2000000 in
theorem connMasks_impl (cs : List Value) (x : DQ) (w : World) (h : rQ.rep w cs x) :
    Calls Try.prog 35 #[.agg cs.toArray] w fun e w' => ∃ u, e = .returned u ∧ Own oI w.heap.size w'.heap.size w' [u] (connMasks x) ∧ Below w.heap.size w w' := by
  obtain ⟨ub, un, uc, rfl⟩ := rQ_form h
  have hb0 : Below w.heap.size w w := Below.refl _ _
  obtain ⟨M, hM, hM16, hMv, hMc⟩ := fullMask_nat x
  have HV := Lib.hid hMv
  have HC := Lib.hid hMc
  clear hMv hMc
  have hfull := fun W (hW : rQ.rep W [.int .i64 x.1, .slice ub un uc] x) => fullMask_impl _ x W hW
  rw [hM] at hfull
  have HF := Lib.hid hfull
  clear hfull hM
  go_enter Try.func35, Try.ntmps35
  obtain ⟨w1, hw1⟩ : ∃ W, W = w.alloc (.cells #[.int .i64 x.1, .slice ub un uc] 46) := ⟨_, rfl⟩
  have z1 : Below w.heap.size w w1 := by rw [hw1]; exact (Below.refl _ _).alloc (Nat.le_refl _) _
  have s1 : w1.heap.size = w.heap.size + 1 := by rw [hw1]; simp
  have hb1 := on hb0 z1
  have b_0 : w1.cell? ⟨w.heap.size, 0, none⟩ = some (.int .i64 x.1) := by rw [hw1]; exact box_cell (Below.refl _ _) rfl
  have b_1 : w1.cell? ⟨w.heap.size, 1, none⟩ = some (.slice ub un uc) := by rw [hw1]; exact box_cell (Below.refl _ _) rfl
  have raw1_b_0 := b_0
  have raw1_b_1 := b_1
  rw [hw1] at raw1_b_0 raw1_b_1
  obtain ⟨w2, hw2⟩ : ∃ W, W = w1.alloc (.cells #[] 3) := ⟨_, rfl⟩
  have z2 : Below w1.heap.size w1 w2 := by rw [hw2]; exact (Below.refl _ _).alloc (Nat.le_refl _) _
  have s2 : w2.heap.size = w1.heap.size + 1 := by rw [hw2]; simp
  have hb2 := on hb1 z2
  replace b_0 := (z2.cell (p := ⟨w.heap.size, 0, none⟩) (by simp only []; omega)).trans b_0
  replace b_1 := (z2.cell (p := ⟨w.heap.size, 1, none⟩) (by simp only []; omega)).trans b_1
  have ho : ∀ S, Acc 3 O.int w1.heap.size S w2.heap.size w2 (.slice (some ⟨w.heap.size + 1, 0, none⟩) 0 0) [] := fun S => by rw [hw2]; exact Acc.empty (by omega) (by simp; omega)
  go_wp2_with fail
  rw [← hw1]
  rw [← hw2]
  clear hw2 hw1
  clear raw1_b_0 raw1_b_1
  go_loopw [3, 4] (fun v k wr => ∃ j : Nat, j ≤ M ∧ k = .int .i64 ((j : Int) + 1) ∧ Acc 3 O.int w1.heap.size w2.heap.size wr.heap.size wr v (connTo x j) ∧ Turn w1.heap.size (w1.heap.size + 1) w2 wr) (fun _ k _ => 16 - (intOf k).toNat)
  case atStart => exact ⟨0, Nat.zero_le _, rfl, (ho _).wide (Nat.le_refl _) (by omega), turn_refl _ _ _⟩
  case round =>
    obtain ⟨j, hj, rfl, hacc, hdr⟩ := hrel
    have hlc := hdr
    clear ho
    have s3 := hdr.size
    have hb3 := hb2.trans ((hdr.below (by omega)).mono (by omega))
    replace b_0 := (hdr.cell (p := ⟨w.heap.size, 0, none⟩) (by simp only []; omega) (by simp only []; omega)).trans b_0
    replace b_1 := (hdr.cell (p := ⟨w.heap.size, 1, none⟩) (by simp only []; omega) (by simp only []; omega)).trans b_1
    have hlen := connTo_len x j
    go_wp2_with fail
    refine (HF.out _ (rQ.mono h hb3)).mono ?_
    rintro e w7 ⟨rfl, z7⟩
    have s4 := z7.size
    have hb4 := on hb3 z7
    replace b_0 := (z7.cell (p := ⟨w.heap.size, 0, none⟩) (by simp only []; omega)).trans b_0
    replace b_1 := (z7.cell (p := ⟨w.heap.size, 1, none⟩) (by simp only []; omega)).trans b_1
    replace hlc := hlc.trans (turn_below z7 (Nat.le_refl _))
    replace hacc := hacc.below z7 (by omega)
    by_cases hlt : j < M
    · obtain ⟨hv, hM2⟩ := HV.out (by omega)
      obtain ⟨n, hq⟩ := QOk.of hv
      have e1 : ((j : Int) + 1) = ((j + 1 : Nat) : Int) := by omega
      have hcall := fun W (hW : rQ.rep W [.int .i64 x.1, .slice ub un uc] x) => connected_any _ x (j + 1) n W hW hq (by omega)
      rw [conn_joined, ← e1] at hcall
      have HC2 := Lib.hid hcall
      have hj1 : (j : Int) + 1 ≤ (M : Int) := by omega
      clear hcall e1 hq hv hM2
      obtain ⟨t, ht⟩ : ∃ t, t = joined x (j + 1) := ⟨_, rfl⟩
      rw [← ht] at HC2
      go_wp2_with fail
      refine (HC2.out _ (rQ.mono h hb4)).mono ?_
      rintro e w8 ⟨rfl, z8⟩
      have s5 := z8.size
      have hb5 := on hb4 z8
      replace b_0 := (z8.cell (p := ⟨w.heap.size, 0, none⟩) (by simp only []; omega)).trans b_0
      replace b_1 := (z8.cell (p := ⟨w.heap.size, 1, none⟩) (by simp only []; omega)).trans b_1
      replace hlc := hlc.trans (turn_below z8 (Nat.le_refl _))
      replace hacc := hacc.below z8 (by omega)
      cases t with
      | true =>
        have HY := Lib.hid (connTo_yes ht.symm)
        clear ht
        go_wp2_with ((at_builtin; refine wpList_accI _ _ _ _ _ hacc hlc rfl (by omega) (by omega) ⟨by omega, by omega⟩ (by omega) rfl rfl rfl rfl rfl ?_; intro v' w1 hacc' ht' hsz'))
        rw [show ((j : Int) + 1) = ((j + 1 : Nat) : Int) by omega, ← HY.out] at hacc'
        go_roundw
        case rel => exact ⟨j + 1, by omega, by go_num, hacc', ht'⟩
        case measure => simp [intOf]; omega
      | false =>
        rw [← connTo_no ht.symm] at hacc
        have HO := Lib.hid (hacc.wide (hi' := w8.heap.size) (Nat.le_refl _) (by omega))
        clear ht hacc
        go_wp2_with fail
        go_roundw
        case rel => exact ⟨j + 1, by omega, by go_num, HO.out, hlc⟩
        case measure => simp [intOf]; omega
    · obtain rfl : j = M := by omega
      have hj1 : ¬ ((j : Int) + 1 ≤ (j : Int)) := by omega
      obtain ⟨a', n', cap2, rfl⟩ := hacc.form3
      rw [← HC.out] at hacc
      have HO := Lib.hid (hacc.own (B := w.heap.size) (hi' := w7.heap.size) (by omega) (by omega) (by omega))
      clear hacc
      go_wp2_with fail
      go_ret
      exact ⟨_, rfl, HO.out, hb4⟩

set_option maxHeartbeats 2000000 in
theorem connMasks_spec (cs : List Value) (x : DQ) (w : World) (h : rQ.rep w cs x) :
    Calls Try.prog 36 #[.agg cs.toArray] w fun e w' => ∃ u, e = .returned u ∧ Own oI w.heap.size w'.heap.size w' [u] (connMasks x) ∧ Below w.heap.size w w' := by
  obtain ⟨ub, un, uc, rfl⟩ := rQ_form h
  have hb0 : Below w.heap.size w w := Below.refl _ _
  obtain ⟨M, hM, hM16, hMv, hMc⟩ := fullMask_nat x
  have HV := Lib.hid hMv
  have HC := Lib.hid hMc
  clear hMv hMc
  have hfull := fun W (hW : rQ.rep W [.int .i64 x.1, .slice ub un uc] x) => fullMask_spec _ x W hW
  rw [hM] at hfull
  have HF := Lib.hid hfull
  clear hfull hM
  go_enter Try.func36, Try.ntmps36
  obtain ⟨w1, hw1⟩ : ∃ W, W = w.alloc (.cells #[.int .i64 x.1, .slice ub un uc] 46) := ⟨_, rfl⟩
  have z1 : Below w.heap.size w w1 := by rw [hw1]; exact (Below.refl _ _).alloc (Nat.le_refl _) _
  have s1 : w1.heap.size = w.heap.size + 1 := by rw [hw1]; simp
  have hb1 := on hb0 z1
  have b_0 : w1.cell? ⟨w.heap.size, 0, none⟩ = some (.int .i64 x.1) := by rw [hw1]; exact box_cell (Below.refl _ _) rfl
  have b_1 : w1.cell? ⟨w.heap.size, 1, none⟩ = some (.slice ub un uc) := by rw [hw1]; exact box_cell (Below.refl _ _) rfl
  have raw1_b_0 := b_0
  have raw1_b_1 := b_1
  rw [hw1] at raw1_b_0 raw1_b_1
  obtain ⟨w2, hw2⟩ : ∃ W, W = w1.alloc (.cells #[] 3) := ⟨_, rfl⟩
  have z2 : Below w1.heap.size w1 w2 := by rw [hw2]; exact (Below.refl _ _).alloc (Nat.le_refl _) _
  have s2 : w2.heap.size = w1.heap.size + 1 := by rw [hw2]; simp
  have hb2 := on hb1 z2
  replace b_0 := (z2.cell (p := ⟨w.heap.size, 0, none⟩) (by simp only []; omega)).trans b_0
  replace b_1 := (z2.cell (p := ⟨w.heap.size, 1, none⟩) (by simp only []; omega)).trans b_1
  have ho : ∀ S, Acc 3 O.int w1.heap.size S w2.heap.size w2 (.slice (some ⟨w.heap.size + 1, 0, none⟩) 0 0) [] := fun S => by rw [hw2]; exact Acc.empty (by omega) (by simp; omega)
  go_wp2_with fail
  rw [← hw1]
  rw [← hw2]
  clear hw2 hw1
  clear raw1_b_0 raw1_b_1
  refine (HF.out _ (rQ.mono h hb2)).mono ?_
  rintro e w7 ⟨rfl, z7⟩
  have s3 := z7.size
  have hb3 := on hb2 z7
  replace b_0 := (z7.cell (p := ⟨w.heap.size, 0, none⟩) (by simp only []; omega)).trans b_0
  replace b_1 := (z7.cell (p := ⟨w.heap.size, 1, none⟩) (by simp only []; omega)).trans b_1
  replace ho := fun S => (ho S).below z7 (by omega)
  go_wp2_with fail
  go_loopw [3, 5] (fun v k wr => ∃ j : Nat, j ≤ M ∧ k = .int .i64 ((j : Int) + 1) ∧ Acc 3 O.int w1.heap.size w7.heap.size wr.heap.size wr v (connTo x j) ∧ Turn w1.heap.size (w1.heap.size + 1) w7 wr) (fun _ k _ => 16 - (intOf k).toNat)
  case atStart => exact ⟨0, Nat.zero_le _, rfl, (ho _).wide (Nat.le_refl _) (by omega), turn_refl _ _ _⟩
  case round =>
    obtain ⟨j, hj, rfl, hacc, hdr⟩ := hrel
    have hlc := hdr
    clear ho
    have s4 := hdr.size
    have hb4 := hb3.trans ((hdr.below (by omega)).mono (by omega))
    replace b_0 := (hdr.cell (p := ⟨w.heap.size, 0, none⟩) (by simp only []; omega) (by simp only []; omega)).trans b_0
    replace b_1 := (hdr.cell (p := ⟨w.heap.size, 1, none⟩) (by simp only []; omega) (by simp only []; omega)).trans b_1
    have hlen := connTo_len x j
    by_cases hlt : j < M
    · obtain ⟨hv, hM2⟩ := HV.out (by omega)
      obtain ⟨n, hq⟩ := QOk.of hv
      have e1 : ((j : Int) + 1) = ((j + 1 : Nat) : Int) := by omega
      have hcall := fun W (hW : rQ.rep W [.int .i64 x.1, .slice ub un uc] x) => joined_any _ x (j + 1) n W hW hq (by omega)
      rw [← e1] at hcall
      have HC2 := Lib.hid hcall
      have hj1 : (j : Int) + 1 ≤ (M : Int) := by omega
      clear hcall e1 hq hv hM2
      obtain ⟨t, ht⟩ : ∃ t, t = joined x (j + 1) := ⟨_, rfl⟩
      rw [← ht] at HC2
      go_wp2_with fail
      refine (HC2.out _ (rQ.mono h hb4)).mono ?_
      rintro e w8 ⟨rfl, z8⟩
      have s5 := z8.size
      have hb5 := on hb4 z8
      replace b_0 := (z8.cell (p := ⟨w.heap.size, 0, none⟩) (by simp only []; omega)).trans b_0
      replace b_1 := (z8.cell (p := ⟨w.heap.size, 1, none⟩) (by simp only []; omega)).trans b_1
      replace hlc := hlc.trans (turn_below z8 (Nat.le_refl _))
      replace hacc := hacc.below z8 (by omega)
      cases t with
      | true =>
        have HY := Lib.hid (connTo_yes ht.symm)
        clear ht
        go_wp2_with ((at_builtin; refine wpList_accI _ _ _ _ _ hacc hlc rfl (by omega) (by omega) ⟨by omega, by omega⟩ (by omega) rfl rfl rfl rfl rfl ?_; intro v' w1 hacc' ht' hsz'))
        rw [show ((j : Int) + 1) = ((j + 1 : Nat) : Int) by omega, ← HY.out] at hacc'
        go_roundw
        case rel => exact ⟨j + 1, by omega, by go_num, hacc', ht'⟩
        case measure => simp [intOf]; omega
      | false =>
        rw [← connTo_no ht.symm] at hacc
        have HO := Lib.hid (hacc.wide (hi' := w8.heap.size) (Nat.le_refl _) (by omega))
        clear ht hacc
        go_wp2_with fail
        go_roundw
        case rel => exact ⟨j + 1, by omega, by go_num, HO.out, hlc⟩
        case measure => simp [intOf]; omega
    · obtain rfl : j = M := by omega
      have hj1 : ¬ ((j : Int) + 1 ≤ (j : Int)) := by omega
      obtain ⟨a', n', cap2, rfl⟩ := hacc.form3
      rw [← HC.out] at hacc
      have HO := Lib.hid (hacc.own (B := w.heap.size) (hi' := wr.heap.size) (by omega) (by omega) (by omega))
      clear hacc
      go_wp2_with fail
      go_ret
      exact ⟨_, rfl, HO.out, hb4⟩

end Go.Proofs.Ytehcjdbljdpmbaa

/- Contracts: splits of connected masks, and join trees. -/
namespace Go.Proofs.Ytehcjdbljdpmbaa
open Go.RowKit
set_option linter.unusedVariables false
set_option linter.unusedSimpArgs false
set_option synthInstance.maxSize 2000
set_option synthInstance.maxHeartbeats 400000

theorem andnot_int : ∀ K, K < 16 → ∀ x, x < 16 → x &&& K = x → bits .andNot .i64 ((K : Nat) : Int) ((x : Nat) : Int) = ((K - x : Nat) : Int) := by decide +kernel
/-- JoinSplits. -/
def joinSplits (q : DQ) (k : Int) : List Int := if isConn q k then splitsTo q k.toNat (k.toNat - 1) else []
/-- CountJoinTrees. -/
def treesI (q : DQ) (k : Int) : Int := if isConn q k then ((treesN q k.toNat : Nat) : Int) else 0
theorem joinSplits_no {q : DQ} {k : Int} (h : isConn q k = false) : joinSplits q k = [] := by simp [joinSplits, h]
theorem joinSplits_yes {q : DQ} {K : Nat} (h : isConn q (K : Int) = true) : joinSplits q (K : Int) = splitsTo q K (K - 1) := by simp [joinSplits, h]
theorem isConn_facts {q : DQ} {k : Int} (h : isConn q k = true) : ∃ K n : Nat, k = K ∧ QOk q n ∧ K < 2 ^ q.2.length ∧ K < 16 ∧ 1 ≤ K ∧ conn q K = true ∧ maskOkB q k = true := by
  simp only [isConn, Bool.and_eq_true] at h
  obtain ⟨K, rfl, hK⟩ := maskOkB_lt h.1
  obtain ⟨n, hq⟩ := QOk.of (maskOkB_valid h.1)
  have h1 : conn q K = true := by simpa using h.2
  have h2 : K ≠ 0 := by intro e; subst e; simp [conn] at h1
  exact ⟨K, n, rfl, hq, hK, Nat.lt_of_lt_of_le hK (pow_le16 hq.len), by omega, h1, h.1⟩
theorem joinSplits_len (q : DQ) (k : Int) : (joinSplits q k).length ≤ 15 := by
  by_cases h : isConn q k = true
  · obtain ⟨K, n, rfl, _, _, h3, _⟩ := isConn_facts h
    rw [joinSplits_yes h]; have := splitsTo_len q K (K - 1); omega
  · rw [joinSplits_no (by simpa using h)]; simp
theorem joinSplits_cnt (q : DQ) (k : Int) : cnt_I (joinSplits q k) ≤ 15 := joinSplits_len q k
theorem conn_pos {q : DQ} {m : Nat} (h : 1 ≤ m) : conn q m = joined q m := by
  have : m ≠ 0 := by omega
  simp [conn, this]
theorem isConn_part {q : DQ} {K y : Nat} (h : maskOkB q (K : Int) = true) (h1 : 1 ≤ y) (h2 : y ≤ K) (h3 : joined q y = true) : isConn q (y : Int) = true := by
  simp only [isConn, Bool.and_eq_true, maskOkB, betw, decide_eq_true_eq] at h ⊢
  refine ⟨⟨h.1, by omega⟩, ?_⟩
  rw [Int.toNat_natCast, conn_pos h1]; exact h3
theorem treesI_nat {q : DQ} {K : Nat} (h : isConn q (K : Int) = true) : treesI q (K : Int) = ((treesN q K : Nat) : Int) := by simp [treesI, h]
theorem treesI_no {q : DQ} {k : Int} (h : isConn q k = false) : treesI q k = 0 := by simp [treesI, h]

set_option maxHeartbeats 4000000 in
theorem joinSplits_impl (cs : List Value) (x : DQ) (k : Int) (w : World) (h : rQ.rep w cs x) :
    Calls Try.prog 26 #[.agg cs.toArray, .int .i64 k] w fun e w' => ∃ u, e = .returned u ∧ Own oI w.heap.size w'.heap.size w' [u] (joinSplits x k) ∧ Below w.heap.size w w' := by
  obtain ⟨ub, un, uc, rfl⟩ := rQ_form h
  have hb0 : Below w.heap.size w w := Below.refl _ _
  go_enter Try.func26, Try.ntmps26
  obtain ⟨w1, hw1⟩ : ∃ W, W = w.alloc (.cells #[.int .i64 x.1, .slice ub un uc] 46) := ⟨_, rfl⟩
  have z1 : Below w.heap.size w w1 := by rw [hw1]; exact (Below.refl _ _).alloc (Nat.le_refl _) _
  have s1 : w1.heap.size = w.heap.size + 1 := by rw [hw1]; simp
  have hb1 := on hb0 z1
  have b_0 : w1.cell? ⟨w.heap.size, 0, none⟩ = some (.int .i64 x.1) := by rw [hw1]; exact box_cell (Below.refl _ _) rfl
  have b_1 : w1.cell? ⟨w.heap.size, 1, none⟩ = some (.slice ub un uc) := by rw [hw1]; exact box_cell (Below.refl _ _) rfl
  have raw1_b_0 := b_0
  have raw1_b_1 := b_1
  rw [hw1] at raw1_b_0 raw1_b_1
  go_wp2_with fail
  rw [← hw1]
  clear hw1
  clear raw1_b_0 raw1_b_1
  refine (isConn_impl _ x k _ (rQ.mono h hb1)).mono ?_
  rintro e w2 ⟨rfl, z2⟩
  have s3 := z2.size
  have hb3 := on hb1 z2
  replace b_0 := (z2.cell (p := ⟨w.heap.size, 0, none⟩) (by simp only []; omega)).trans b_0
  replace b_1 := (z2.cell (p := ⟨w.heap.size, 1, none⟩) (by simp only []; omega)).trans b_1
  by_cases hv : isConn x k = true
  case neg =>
    replace hv : isConn x k = false := by simpa using hv
    have HE := Lib.hid (joinSplits_no hv)
    go_wp2_with fail
    go_ret
    exact ⟨_, rfl, by rw [HE.out]; exact (OwnInts.nil _ _).own, hb3⟩
  obtain ⟨K, n, rfl, hq, hK, hK16, hK1, hcn, hok⟩ := isConn_facts hv
  have HE := Lib.hid (joinSplits_yes hv)
  have HQ := Lib.hid hq
  have HK := Lib.hid hK
  clear hq hK hcn hok
  obtain ⟨w4, hw4⟩ : ∃ W, W = w2.alloc (.cells #[] 3) := ⟨_, rfl⟩
  have z4 : Below w2.heap.size w2 w4 := by rw [hw4]; exact (Below.refl _ _).alloc (Nat.le_refl _) _
  have s4 : w4.heap.size = w2.heap.size + 1 := by rw [hw4]; simp
  have hb4 := on hb3 z4
  replace b_0 := (z4.cell (p := ⟨w.heap.size, 0, none⟩) (by simp only []; omega)).trans b_0
  replace b_1 := (z4.cell (p := ⟨w.heap.size, 1, none⟩) (by simp only []; omega)).trans b_1
  have ho : ∀ S, Acc 3 O.int w2.heap.size S w4.heap.size w4 (.slice (some ⟨w2.heap.size, 0, none⟩) 0 0) [] := fun S => by rw [hw4]; exact Acc.empty (by omega) (by first | (simp; done) | (simp; omega))
  go_wp2_with fail
  rw [← hw4]
  clear hw4
  clear hv
  go_loopw [5, 6] (fun v k wr => ∃ j : Nat, j + 1 ≤ K ∧ k = .int .i64 ((j : Int) + 1) ∧ Acc 3 O.int w2.heap.size w4.heap.size wr.heap.size wr v (splitsTo x K j) ∧ Turn w2.heap.size (w2.heap.size + 1) w4 wr) (fun _ k _ => 16 - (intOf k).toNat)
  case atStart => exact ⟨0, by omega, rfl, (ho _).wide (Nat.le_refl _) (by omega), turn_refl _ _ _⟩
  case round =>
    obtain ⟨j, hj, rfl, hacc, hdr⟩ := hrel
    have hlc := hdr
    clear ho
    have s5 := hdr.size
    have hb5 := hb4.trans ((hdr.below (by omega)).mono (by omega))
    replace b_0 := (hdr.cell (p := ⟨w.heap.size, 0, none⟩) (by simp only []; omega) (by simp only []; omega)).trans b_0
    replace b_1 := (hdr.cell (p := ⟨w.heap.size, 1, none⟩) (by simp only []; omega) (by simp only []; omega)).trans b_1
    have hlen := splitsTo_len x K j
    by_cases hlt : j + 1 < K
    · have hj1 : (j : Int) + 1 < (K : Int) := by omega
      have hba := bits_and_nat (j + 1) K (by omega) (by omega)
      rw [show ((j + 1 : Nat) : Int) = (j : Int) + 1 by omega] at hba
      obtain ⟨P, hP⟩ : ∃ P, P = (j + 1) &&& K := ⟨_, rfl⟩
      rw [← hP] at hba
      by_cases hp : P = j + 1
      case neg =>
        have hne : ((P : Int) == (j : Int) + 1) = false := by rw [beq_eq_false_iff_ne]; omega
        rw [← splitsTo_no (show splitB x K (j + 1) = false by rw [splitB, ← hP, decide_eq_false hp]; rfl)] at hacc
        have HO := Lib.hid (hacc.wide (hi' := wr.heap.size) (Nat.le_refl _) (by omega))
        clear hacc hP hp
        go_wp2_with fail
        go_roundw
        case rel => exact ⟨j + 1, by omega, by go_num, HO.out, hlc⟩
        case measure => simp [intOf]; omega
      have hpp : (j + 1) &&& K = j + 1 := by rw [← hP]; exact hp
      have hne : ((P : Int) == (j : Int) + 1) = true := by rw [beq_iff_eq]; omega
      obtain ⟨R, hR⟩ : ∃ R, R = K - (j + 1) := ⟨_, rfl⟩
      have hR1 : 1 ≤ R ∧ R < K := by omega
      obtain ⟨hR1, hR2⟩ := hR1
      have hdf := andnot_int K hK16 (j + 1) (by omega) hpp
      rw [show ((j + 1 : Nat) : Int) = (j : Int) + 1 by omega, ← hR] at hdf
      have hc1 := fun W (hW : rQ.rep W [.int .i64 x.1, .slice ub un uc] x) => connected_any _ x (j + 1) n W hW HQ.out (by have := HK.out; omega)
      have hc2 := fun W (hW : rQ.rep W [.int .i64 x.1, .slice ub un uc] x) => connected_any _ x R n W hW HQ.out (by have := HK.out; omega)
      rw [conn_pos (show 1 ≤ j + 1 by omega), show ((j + 1 : Nat) : Int) = (j : Int) + 1 by omega] at hc1
      rw [conn_pos (show 1 ≤ R by omega)] at hc2
      obtain ⟨t1, ht1⟩ : ∃ t, t = joined x (j + 1) := ⟨_, rfl⟩
      obtain ⟨t2, ht2⟩ : ∃ t, t = joined x R := ⟨_, rfl⟩
      rw [← ht1] at hc1
      rw [← ht2] at hc2
      have HC1 := Lib.hid hc1
      have HC2 := Lib.hid hc2
      have HS := Lib.hid (show splitB x K (j + 1) = (t1 && t2) by rw [ht1, ht2, hR]; rw [splitB, hpp, decide_eq_true rfl, Bool.true_and])
      clear hc1 hc2 ht1 ht2 hR hpp hp hP
      go_wp2_with fail
      refine (HC1.out _ (rQ.mono h hb5)).mono ?_
      rintro e w8 ⟨rfl, z8⟩
      have s6 := z8.size
      have hb6 := on hb5 z8
      replace b_0 := (z8.cell (p := ⟨w.heap.size, 0, none⟩) (by simp only []; omega)).trans b_0
      replace b_1 := (z8.cell (p := ⟨w.heap.size, 1, none⟩) (by simp only []; omega)).trans b_1
      replace hlc := hlc.trans (turn_below z8 (Nat.le_refl _))
      replace hacc := hacc.below z8 (by omega)
      cases t1 with
      | false =>
        rw [← splitsTo_no (show splitB x K (j + 1) = false by rw [HS.out]; rfl)] at hacc
        have HO := Lib.hid (hacc.wide (hi' := w8.heap.size) (Nat.le_refl _) (by omega))
        clear hacc
        go_wp2_with fail
        go_roundw
        case rel => exact ⟨j + 1, by omega, by go_num, HO.out, hlc⟩
        case measure => simp [intOf]; omega
      | true =>
        go_wp2_with fail
        refine (HC2.out _ (rQ.mono h hb6)).mono ?_
        rintro e w7 ⟨rfl, z7⟩
        have s7 := z7.size
        have hb7 := on hb6 z7
        replace b_0 := (z7.cell (p := ⟨w.heap.size, 0, none⟩) (by simp only []; omega)).trans b_0
        replace b_1 := (z7.cell (p := ⟨w.heap.size, 1, none⟩) (by simp only []; omega)).trans b_1
        replace hlc := hlc.trans (turn_below z7 (Nat.le_refl _))
        replace hacc := hacc.below z7 (by omega)
        cases t2 with
        | false =>
          rw [← splitsTo_no (show splitB x K (j + 1) = false by rw [HS.out]; rfl)] at hacc
          have HO := Lib.hid (hacc.wide (hi' := w7.heap.size) (Nat.le_refl _) (by omega))
          clear hacc
          go_wp2_with fail
          go_roundw
          case rel => exact ⟨j + 1, by omega, by go_num, HO.out, hlc⟩
          case measure => simp [intOf]; omega
        | true =>
          have HY := Lib.hid (splitsTo_yes (show splitB x K (j + 1) = true by rw [HS.out]; rfl))
          go_wp2_with ((at_builtin; refine wpList_accI _ _ _ _ _ hacc hlc rfl (by omega) (by omega) ⟨by omega, by omega⟩ (by omega) rfl rfl rfl rfl rfl ?_; intro v' w1 hacc' ht' hsz'))
          rw [show ((j : Int) + 1) = ((j + 1 : Nat) : Int) by omega, ← HY.out] at hacc'
          go_roundw
          case rel => exact ⟨j + 1, by omega, by go_num, hacc', ht'⟩
          case measure => simp [intOf]; omega
    · obtain rfl : K = j + 1 := by omega
      have hj1 : ¬ ((j : Int) + 1 < ((j + 1 : Nat) : Int)) := by omega
      obtain ⟨a', n', cap2, rfl⟩ := hacc.form3
      rw [← (show joinSplits x ((j + 1 : Nat) : Int) = splitsTo x (j + 1) j from HE.out)] at hacc
      have HO := Lib.hid (hacc.own (B := w.heap.size) (hi' := wr.heap.size) (by omega) (by omega) (by omega))
      clear hacc HE
      go_wp2_with fail
      go_ret
      exact ⟨_, rfl, HO.out, hb5⟩

set_option maxHeartbeats 4000000 in
theorem joinSplits_spec (cs : List Value) (x : DQ) (k : Int) (w : World) (h : rQ.rep w cs x) :
    Calls Try.prog 28 #[.agg cs.toArray, .int .i64 k] w fun e w' => ∃ u, e = .returned u ∧ Own oI w.heap.size w'.heap.size w' [u] (joinSplits x k) ∧ Below w.heap.size w w' := by
  obtain ⟨ub, un, uc, rfl⟩ := rQ_form h
  have hb0 : Below w.heap.size w w := Below.refl _ _
  go_enter Try.func28, Try.ntmps28
  obtain ⟨w1, hw1⟩ : ∃ W, W = w.alloc (.cells #[.int .i64 x.1, .slice ub un uc] 46) := ⟨_, rfl⟩
  have z1 : Below w.heap.size w w1 := by rw [hw1]; exact (Below.refl _ _).alloc (Nat.le_refl _) _
  have s1 : w1.heap.size = w.heap.size + 1 := by rw [hw1]; simp
  have hb1 := on hb0 z1
  have b_0 : w1.cell? ⟨w.heap.size, 0, none⟩ = some (.int .i64 x.1) := by rw [hw1]; exact box_cell (Below.refl _ _) rfl
  have b_1 : w1.cell? ⟨w.heap.size, 1, none⟩ = some (.slice ub un uc) := by rw [hw1]; exact box_cell (Below.refl _ _) rfl
  have raw1_b_0 := b_0
  have raw1_b_1 := b_1
  rw [hw1] at raw1_b_0 raw1_b_1
  obtain ⟨w2, hw2⟩ : ∃ W, W = w1.alloc (.cells #[] 3) := ⟨_, rfl⟩
  have z2 : Below w1.heap.size w1 w2 := by rw [hw2]; exact (Below.refl _ _).alloc (Nat.le_refl _) _
  have s2 : w2.heap.size = w1.heap.size + 1 := by rw [hw2]; simp
  have hb2 := on hb1 z2
  replace b_0 := (z2.cell (p := ⟨w.heap.size, 0, none⟩) (by simp only []; omega)).trans b_0
  replace b_1 := (z2.cell (p := ⟨w.heap.size, 1, none⟩) (by simp only []; omega)).trans b_1
  have ho : ∀ S, Acc 3 O.int w1.heap.size S w2.heap.size w2 (.slice (some ⟨w.heap.size + 1, 0, none⟩) 0 0) [] := fun S => by rw [hw2]; exact Acc.empty (by omega) (by first | (simp; done) | (simp; omega))
  go_wp2_with fail
  rw [← hw1]
  rw [← hw2]
  clear hw2 hw1
  clear raw1_b_0 raw1_b_1
  refine (isConn_spec _ x k _ (rQ.mono h hb2)).mono ?_
  rintro e w3 ⟨rfl, z3⟩
  have s4 := z3.size
  have hb4 := on hb2 z3
  replace b_0 := (z3.cell (p := ⟨w.heap.size, 0, none⟩) (by simp only []; omega)).trans b_0
  replace b_1 := (z3.cell (p := ⟨w.heap.size, 1, none⟩) (by simp only []; omega)).trans b_1
  replace ho := fun S => (ho S).below z3 (by omega)
  by_cases hv : isConn x k = true
  case neg =>
    replace hv : isConn x k = false := by simpa using hv
    have HE := Lib.hid (joinSplits_no hv)
    have hoo := (ho w.heap.size).own (B := w.heap.size) (hi' := w3.heap.size) (by omega) (Nat.le_refl _) (by omega)
    clear ho
    go_wp2_with fail
    go_ret
    exact ⟨_, rfl, by rw [HE.out]; exact hoo, hb4⟩
  obtain ⟨K, n, rfl, hq, hK, hK16, hK1, hcn, hok⟩ := isConn_facts hv
  have HE := Lib.hid (joinSplits_yes hv)
  have HQ := Lib.hid hq
  have HK := Lib.hid hK
  clear hq hK hcn hok
  go_wp2_with fail
  clear hv
  go_loopw [5, 6] (fun v k wr => ∃ j : Nat, j + 1 ≤ K ∧ k = .int .i64 ((j : Int) + 1) ∧ Acc 3 O.int w1.heap.size w3.heap.size wr.heap.size wr v (splitsTo x K j) ∧ Turn w1.heap.size (w1.heap.size + 1) w3 wr) (fun _ k _ => 16 - (intOf k).toNat)
  case atStart => exact ⟨0, by omega, rfl, (ho _).wide (Nat.le_refl _) (by omega), turn_refl _ _ _⟩
  case round =>
    obtain ⟨j, hj, rfl, hacc, hdr⟩ := hrel
    have hlc := hdr
    clear ho
    have s5 := hdr.size
    have hb5 := hb4.trans ((hdr.below (by omega)).mono (by omega))
    replace b_0 := (hdr.cell (p := ⟨w.heap.size, 0, none⟩) (by simp only []; omega) (by simp only []; omega)).trans b_0
    replace b_1 := (hdr.cell (p := ⟨w.heap.size, 1, none⟩) (by simp only []; omega) (by simp only []; omega)).trans b_1
    have hlen := splitsTo_len x K j
    by_cases hlt : j + 1 < K
    · have hj1 : (j : Int) + 1 < (K : Int) := by omega
      have hba := bits_and_nat (j + 1) K (by omega) (by omega)
      rw [show ((j + 1 : Nat) : Int) = (j : Int) + 1 by omega] at hba
      obtain ⟨P, hP⟩ : ∃ P, P = (j + 1) &&& K := ⟨_, rfl⟩
      rw [← hP] at hba
      by_cases hp : P = j + 1
      case neg =>
        have hne : ((P : Int) == (j : Int) + 1) = false := by rw [beq_eq_false_iff_ne]; omega
        rw [← splitsTo_no (show splitB x K (j + 1) = false by rw [splitB, ← hP, decide_eq_false hp]; rfl)] at hacc
        have HO := Lib.hid (hacc.wide (hi' := wr.heap.size) (Nat.le_refl _) (by omega))
        clear hacc hP hp
        go_wp2_with fail
        go_roundw
        case rel => exact ⟨j + 1, by omega, by go_num, HO.out, hlc⟩
        case measure => simp [intOf]; omega
      have hpp : (j + 1) &&& K = j + 1 := by rw [← hP]; exact hp
      have hne : ((P : Int) == (j : Int) + 1) = true := by rw [beq_iff_eq]; omega
      obtain ⟨R, hR⟩ : ∃ R, R = K - (j + 1) := ⟨_, rfl⟩
      have hR1 : 1 ≤ R ∧ R < K := by omega
      obtain ⟨hR1, hR2⟩ := hR1
      have hdf : (K : Int) - ((j : Int) + 1) = (R : Int) := by omega
      have hc1 := fun W (hW : rQ.rep W [.int .i64 x.1, .slice ub un uc] x) => joined_any _ x (j + 1) n W hW HQ.out (by have := HK.out; omega)
      have hc2 := fun W (hW : rQ.rep W [.int .i64 x.1, .slice ub un uc] x) => joined_any _ x R n W hW HQ.out (by have := HK.out; omega)
      rw [show ((j + 1 : Nat) : Int) = (j : Int) + 1 by omega] at hc1
      obtain ⟨t1, ht1⟩ : ∃ t, t = joined x (j + 1) := ⟨_, rfl⟩
      obtain ⟨t2, ht2⟩ : ∃ t, t = joined x R := ⟨_, rfl⟩
      rw [← ht1] at hc1
      rw [← ht2] at hc2
      have HC1 := Lib.hid hc1
      have HC2 := Lib.hid hc2
      have HS := Lib.hid (show splitB x K (j + 1) = (t1 && t2) by rw [ht1, ht2, hR]; rw [splitB, hpp, decide_eq_true rfl, Bool.true_and])
      clear hc1 hc2 ht1 ht2 hR hpp hp hP
      go_wp2_with fail
      refine (HC1.out _ (rQ.mono h hb5)).mono ?_
      rintro e w8 ⟨rfl, z8⟩
      have s6 := z8.size
      have hb6 := on hb5 z8
      replace b_0 := (z8.cell (p := ⟨w.heap.size, 0, none⟩) (by simp only []; omega)).trans b_0
      replace b_1 := (z8.cell (p := ⟨w.heap.size, 1, none⟩) (by simp only []; omega)).trans b_1
      replace hlc := hlc.trans (turn_below z8 (Nat.le_refl _))
      replace hacc := hacc.below z8 (by omega)
      cases t1 with
      | false =>
        rw [← splitsTo_no (show splitB x K (j + 1) = false by rw [HS.out]; rfl)] at hacc
        have HO := Lib.hid (hacc.wide (hi' := w8.heap.size) (Nat.le_refl _) (by omega))
        clear hacc
        go_wp2_with fail
        go_roundw
        case rel => exact ⟨j + 1, by omega, by go_num, HO.out, hlc⟩
        case measure => simp [intOf]; omega
      | true =>
        go_wp2_with fail
        refine (HC2.out _ (rQ.mono h hb6)).mono ?_
        rintro e w7 ⟨rfl, z7⟩
        have s7 := z7.size
        have hb7 := on hb6 z7
        replace b_0 := (z7.cell (p := ⟨w.heap.size, 0, none⟩) (by simp only []; omega)).trans b_0
        replace b_1 := (z7.cell (p := ⟨w.heap.size, 1, none⟩) (by simp only []; omega)).trans b_1
        replace hlc := hlc.trans (turn_below z7 (Nat.le_refl _))
        replace hacc := hacc.below z7 (by omega)
        cases t2 with
        | false =>
          rw [← splitsTo_no (show splitB x K (j + 1) = false by rw [HS.out]; rfl)] at hacc
          have HO := Lib.hid (hacc.wide (hi' := w7.heap.size) (Nat.le_refl _) (by omega))
          clear hacc
          go_wp2_with fail
          go_roundw
          case rel => exact ⟨j + 1, by omega, by go_num, HO.out, hlc⟩
          case measure => simp [intOf]; omega
        | true =>
          have HY := Lib.hid (splitsTo_yes (show splitB x K (j + 1) = true by rw [HS.out]; rfl))
          go_wp2_with ((at_builtin; refine wpList_accI _ _ _ _ _ hacc hlc rfl (by omega) (by omega) ⟨by omega, by omega⟩ (by omega) rfl rfl rfl rfl rfl ?_; intro v' w1 hacc' ht' hsz'))
          rw [show ((j : Int) + 1) = ((j + 1 : Nat) : Int) by omega, ← HY.out] at hacc'
          go_roundw
          case rel => exact ⟨j + 1, by omega, by go_num, hacc', ht'⟩
          case measure => simp [intOf]; omega
    · obtain rfl : K = j + 1 := by omega
      have hj1 : ¬ ((j : Int) + 1 < ((j + 1 : Nat) : Int)) := by omega
      obtain ⟨a', n', cap2, rfl⟩ := hacc.form3
      rw [← (show joinSplits x ((j + 1 : Nat) : Int) = splitsTo x (j + 1) j from HE.out)] at hacc
      have HO := Lib.hid (hacc.own (B := w.heap.size) (hi' := wr.heap.size) (by omega) (by omega) (by omega))
      clear hacc HE
      go_wp2_with fail
      go_ret
      exact ⟨_, rfl, HO.out, hb5⟩

end Go.Proofs.Ytehcjdbljdpmbaa

/- Plain law: the graph of a query's atoms. -/
namespace Go.Proofs.Ytehcjdbljdpmbaa
open Go.RowKit
set_option linter.unusedVariables false
set_option linter.unusedSimpArgs false

/-- The variables of atom i, as bits. -/
def vAt (q : DQ) (i : Nat) : Nat := match q.2[i]? with
  | some a => vbits 0 a.2
  | none => 0
/-- Whether two sets of variables meet. -/
def meet (x y : Nat) : Bool := decide (x &&& y ≠ 0)
/-- Whether two atoms share a variable. -/
def edge (q : DQ) (i j : Nat) : Bool := meet (vAt q i) (vAt q j)
theorem meet_comm (x y : Nat) : meet x y = meet y x := by unfold meet; rw [Nat.and_comm]
/-- One atom's turn in the neighbors. -/
def nbr (b : Bool) (r : Bool) (m p : Nat) : Nat := if !b && r then m ||| p else m
/-- The neighbors, by the six edges that four atoms may have. -/
def nearE (a b c d e f : Bool) (K : Nat) : Nat :=
  nbr (bitAt K 3) ((bitAt K 0 && c) || (bitAt K 1 && e) || (bitAt K 2 && f)) (nbr (bitAt K 2) ((bitAt K 0 && b) || (bitAt K 1 && d) || (bitAt K 3 && f)) (nbr (bitAt K 1) ((bitAt K 0 && a) || (bitAt K 2 && d) || (bitAt K 3 && e)) (nbr (bitAt K 0) ((bitAt K 1 && a) || (bitAt K 2 && b) || (bitAt K 3 && c)) 0 1) 2) 4) 8
theorem meet_or (x y z : Nat) : meet x (y ||| z) = (meet x y || meet x z) := by
  unfold meet
  rw [Nat.and_or_distrib_left, Bool.eq_iff_iff]
  simp only [decide_eq_true_eq, Bool.or_eq_true]
  constructor
  · intro h
    by_cases h1 : x &&& y = 0
    · right; intro h2; exact h (by rw [h1, h2]; rfl)
    · exact .inl h1
  · intro h h1
    have h2 := Nat.or_eq_zero_iff.1 h1
    rcases h with h | h
    · exact h h2.1
    · exact h h2.2
theorem meet_if (x y : Nat) (b : Bool) : meet x (if b = true then y else 0) = (b && meet x y) := by cases b <;> simp [meet]
theorem meet_zero (x : Nat) : meet x 0 = false := by simp [meet]
theorem zero_meet (x : Nat) : meet 0 x = false := by simp [meet]
theorem nearFrom_cons (K B m i : Nat) (a : DA) (t : List DA) : nearFrom K B m i (a :: t) = nearFrom K B (nbr (bitAt K i) (meet (vbits 0 a.2) B) m (2 ^ i)) (i + 1) t := rfl
theorem nearFrom_nil (K B m i : Nat) : nearFrom K B m i [] = m := rfl
theorem qbits_nil (K m i : Nat) : qbits K m i [] = m := rfl
theorem vAt_yes {q : DQ} {i : Nat} {a : DA} (h : q.2[i]? = some a) : vAt q i = vbits 0 a.2 := by simp [vAt, h]
theorem vAt_no {q : DQ} {i : Nat} (h : q.2[i]? = none) : vAt q i = 0 := by simp [vAt, h]
theorem qbits_or (K m i : Nat) (a : DA) (t : List DA) : qbits K m i (a :: t) = qbits K (m ||| (if bitAt K i = true then vbits 0 a.2 else 0)) (i + 1) t := by
  rw [qbits]
  congr 1
  split
  · exact vbits_or _ _
  · simp
theorem near_eq {q : DQ} (h1 : 1 ≤ q.2.length) (h4 : q.2.length ≤ 4) (K : Nat) : near q K = nearE (edge q 0 1) (edge q 0 2) (edge q 0 3) (edge q 1 2) (edge q 1 3) (edge q 2 3) K := by
  obtain ⟨n, xs⟩ := q
  rcases xs with _ | ⟨a, _ | ⟨b, _ | ⟨c, _ | ⟨d, _ | ⟨f, t⟩⟩⟩⟩⟩
  · simp at h1
  · have e0 : vAt (n, [a]) 0 = vbits 0 a.2 := rfl
    have e1 : vAt (n, [a]) 1 = 0 := rfl
    have e2 : vAt (n, [a]) 2 = 0 := rfl
    have e3 : vAt (n, [a]) 3 = 0 := rfl
    simp only [edge, e0, e1, e2, e3, near, bitsOf, qbits_or, qbits_nil, nearFrom_cons, nearFrom_nil, meet_or, meet_if, meet_zero, zero_meet, nearE]
    generalize hb0 : bitAt K 0 = b0
    generalize hb1 : bitAt K 1 = b1
    generalize hb2 : bitAt K 2 = b2
    generalize hb3 : bitAt K 3 = b3
    generalize meet (vbits 0 a.2) (vbits 0 a.2) = maa
    cases b0 <;> cases b1 <;> cases b2 <;> cases b3 <;> simp [nbr]
  · have e0 : vAt (n, [a, b]) 0 = vbits 0 a.2 := rfl
    have e1 : vAt (n, [a, b]) 1 = vbits 0 b.2 := rfl
    have e2 : vAt (n, [a, b]) 2 = 0 := rfl
    have e3 : vAt (n, [a, b]) 3 = 0 := rfl
    simp only [edge, e0, e1, e2, e3, near, bitsOf, qbits_or, qbits_nil, nearFrom_cons, nearFrom_nil, meet_or, meet_if, meet_zero, zero_meet, nearE]
    rw [meet_comm (vbits 0 b.2) (vbits 0 a.2)]
    generalize hb0 : bitAt K 0 = b0
    generalize hb1 : bitAt K 1 = b1
    generalize hb2 : bitAt K 2 = b2
    generalize hb3 : bitAt K 3 = b3
    generalize meet (vbits 0 a.2) (vbits 0 a.2) = maa
    generalize meet (vbits 0 a.2) (vbits 0 b.2) = mab
    generalize meet (vbits 0 b.2) (vbits 0 b.2) = mbb
    cases b0 <;> cases b1 <;> cases b2 <;> cases b3 <;> simp [nbr]
  · have e0 : vAt (n, [a, b, c]) 0 = vbits 0 a.2 := rfl
    have e1 : vAt (n, [a, b, c]) 1 = vbits 0 b.2 := rfl
    have e2 : vAt (n, [a, b, c]) 2 = vbits 0 c.2 := rfl
    have e3 : vAt (n, [a, b, c]) 3 = 0 := rfl
    simp only [edge, e0, e1, e2, e3, near, bitsOf, qbits_or, qbits_nil, nearFrom_cons, nearFrom_nil, meet_or, meet_if, meet_zero, zero_meet, nearE]
    rw [meet_comm (vbits 0 b.2) (vbits 0 a.2)]
    rw [meet_comm (vbits 0 c.2) (vbits 0 a.2)]
    rw [meet_comm (vbits 0 c.2) (vbits 0 b.2)]
    generalize hb0 : bitAt K 0 = b0
    generalize hb1 : bitAt K 1 = b1
    generalize hb2 : bitAt K 2 = b2
    generalize hb3 : bitAt K 3 = b3
    generalize meet (vbits 0 a.2) (vbits 0 a.2) = maa
    generalize meet (vbits 0 a.2) (vbits 0 b.2) = mab
    generalize meet (vbits 0 a.2) (vbits 0 c.2) = mac
    generalize meet (vbits 0 b.2) (vbits 0 b.2) = mbb
    generalize meet (vbits 0 b.2) (vbits 0 c.2) = mbc
    generalize meet (vbits 0 c.2) (vbits 0 c.2) = mcc
    cases b0 <;> cases b1 <;> cases b2 <;> cases b3 <;> simp [nbr]
  · have e0 : vAt (n, [a, b, c, d]) 0 = vbits 0 a.2 := rfl
    have e1 : vAt (n, [a, b, c, d]) 1 = vbits 0 b.2 := rfl
    have e2 : vAt (n, [a, b, c, d]) 2 = vbits 0 c.2 := rfl
    have e3 : vAt (n, [a, b, c, d]) 3 = vbits 0 d.2 := rfl
    simp only [edge, e0, e1, e2, e3, near, bitsOf, qbits_or, qbits_nil, nearFrom_cons, nearFrom_nil, meet_or, meet_if, meet_zero, zero_meet, nearE]
    rw [meet_comm (vbits 0 b.2) (vbits 0 a.2)]
    rw [meet_comm (vbits 0 c.2) (vbits 0 a.2)]
    rw [meet_comm (vbits 0 d.2) (vbits 0 a.2)]
    rw [meet_comm (vbits 0 c.2) (vbits 0 b.2)]
    rw [meet_comm (vbits 0 d.2) (vbits 0 b.2)]
    rw [meet_comm (vbits 0 d.2) (vbits 0 c.2)]
    generalize hb0 : bitAt K 0 = b0
    generalize hb1 : bitAt K 1 = b1
    generalize hb2 : bitAt K 2 = b2
    generalize hb3 : bitAt K 3 = b3
    generalize meet (vbits 0 a.2) (vbits 0 a.2) = maa
    generalize meet (vbits 0 a.2) (vbits 0 b.2) = mab
    generalize meet (vbits 0 a.2) (vbits 0 c.2) = mac
    generalize meet (vbits 0 a.2) (vbits 0 d.2) = mad
    generalize meet (vbits 0 b.2) (vbits 0 b.2) = mbb
    generalize meet (vbits 0 b.2) (vbits 0 c.2) = mbc
    generalize meet (vbits 0 b.2) (vbits 0 d.2) = mbd
    generalize meet (vbits 0 c.2) (vbits 0 c.2) = mcc
    generalize meet (vbits 0 c.2) (vbits 0 d.2) = mcd
    generalize meet (vbits 0 d.2) (vbits 0 d.2) = mdd
    cases b0 <;> cases b1 <;> cases b2 <;> cases b3 <;> simp [nbr]
  · simp at h4

def iterE (a b c d e f : Bool) (K : Nat) : Nat → Nat → Nat
  | 0, g => g
  | k + 1, g => iterE a b c d e f K k (g ||| (nearE a b c d e f g &&& K))
def joinE (a b c d e f : Bool) (n K : Nat) : Bool := iterE a b c d e f K n (lowB K) == K
theorem iter_eq {q : DQ} (h1 : 1 ≤ q.2.length) (h4 : q.2.length ≤ 4) (K : Nat) : ∀ k g, iterM q K k g = iterE (edge q 0 1) (edge q 0 2) (edge q 0 3) (edge q 1 2) (edge q 1 3) (edge q 2 3) K k g
  | 0, g => rfl
  | k + 1, g => by rw [iterM, iterE, stepM, near_eq h1 h4]; exact iter_eq h1 h4 K k _
theorem join_eq {q : DQ} (h1 : 1 ≤ q.2.length) (h4 : q.2.length ≤ 4) (K : Nat) : joined q K = joinE (edge q 0 1) (edge q 0 2) (edge q 0 3) (edge q 1 2) (edge q 1 3) (edge q 2 3) q.2.length K := by
  rw [joined, joinE, iter_eq h1 h4, Bool.eq_iff_iff]; simp
def allB (f : Bool → Bool) : Bool := f false && f true
theorem allB_of {f : Bool → Bool} (h : allB f = true) (b : Bool) : f b = true := by
  simp only [allB, Bool.and_eq_true] at h
  cases b
  · exact h.1
  · exact h.2
def allN (n : Nat) (f : Nat → Bool) : Bool := (List.range n).all f
theorem allN_of {n : Nat} {f : Nat → Bool} (h : allN n f = true) (k : Nat) (hk : k < n) : f k = true := by
  simp only [allN, List.all_eq_true, List.mem_range] at h
  exact h k hk
def chk1 : Bool := allB fun a => allB fun b => allB fun c => allB fun d => allB fun e => allB fun f => allN 5 fun n => allN 16 fun K => !(Nat.blt K (2 ^ n)) || !(joinE a b c d e f n K) || allN 16 fun x => !((x &&& K) == x) || x == 0 || x == K || !((nearE a b c d e f x &&& (K - x)) == 0)
theorem chk1_ok : chk1 = true := by decide +kernel
def chk2 : Bool := allB fun a => allB fun b => allB fun c => allB fun d => allB fun e => allB fun f => allN 5 fun n => allN 16 fun K => !(Nat.blt K (2 ^ n)) || K == 0 || !(joinE a b c d e f n K) || allN n fun x => !(bitAt (nearE a b c d e f K) x) || joinE a b c d e f n (K ||| 2 ^ x)
theorem chk2_ok : chk2 = true := by decide +kernel
def chk3 : Bool := allB fun a => allB fun b => allB fun c => allB fun d => allB fun e => allB fun f => allN 5 fun n => allN 16 fun K => !(Nat.blt K (2 ^ n)) || (K &&& (K - 1)) == 0 || !(joinE a b c d e f n K) || (List.range 16).any fun x => !(x == 0) && Nat.blt x K && (x &&& K) == x && joinE a b c d e f n x && joinE a b c d e f n (K - x)
theorem chk3_ok : chk3 = true := by decide +kernel

end Go.Proofs.Ytehcjdbljdpmbaa
