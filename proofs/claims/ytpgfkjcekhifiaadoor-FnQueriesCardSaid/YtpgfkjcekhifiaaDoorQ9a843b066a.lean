/- Texts joined for one claim: MaskC, MaskV, MaskI, Shared. -/
import Derived.Test.YtpgfkjcekhifiaaDoorQade03a00d9
import Derived.Test.YtpgfkjcekhifiaaDoorQ1236d00423
import Derived.Deep.RegionHeld3

/- Contracts: masks of a query, and their variables. -/
namespace Go.Proofs.YtpgfkjcekhifiaaDoor
open Go.RowKit
set_option linter.unusedVariables false
set_option linter.unusedSimpArgs false
set_option synthInstance.maxSize 2000
set_option synthInstance.maxHeartbeats 400000

theorem full_int {n : Nat} (hn : n ≤ 16) : wrap64 (wrap64 ((2 : Int) ^ n) - 1) = ((2 ^ n - 1 : Nat) : Int) := by
  have h1 := Nat.pow_le_pow_right (show 0 < 2 by omega) hn
  have h2 := Nat.two_pow_pos n
  rw [wrap_pow hn]
  generalize 2 ^ n = p at h1 h2
  rw [IntWalk.wrap64_in _ ⟨by omega, by omega⟩]
  omega
theorem fullMask_no {q : DQ} (h : validQ q = false) : fullMask q = 0 := by simp [fullMask, h]
theorem fullMask_yes {q : DQ} (h : validQ q = true) : fullMask q = ((2 ^ q.2.length - 1 : Nat) : Int) := by simp [fullMask, h]

set_option maxHeartbeats 800000 in
theorem maskOk_impl (cs : List Value) (x : DQ) (k : Int) (w : World) (h : rQ.rep w cs x) :
    Calls Tryd.prog 37 #[.agg cs.toArray, .int .i64 k] w fun e w' => e = .returned (.bool (maskOkB x k)) ∧ Below w.heap.size w w' := by
  obtain ⟨ub, un, uc, rfl, hi, g1⟩ := rQ_open h
  have hl := (rS_sl g1).len
  clear g1 hi
  have hb0 : Below w.heap.size w w := Below.refl _ _
  go_enter Tryd.func37, Tryd.ntmps37
  obtain ⟨w1, hw1⟩ : ∃ W, W = w.alloc (.cells #[.int .i64 x.1, .slice ub un uc] 24) := ⟨_, rfl⟩
  have z1 : Below w.heap.size w w1 := by rw [hw1]; exact (Below.refl _ _).alloc (Nat.le_refl _) _
  have s1 : w1.heap.size = w.heap.size + 1 := by rw [hw1]; simp
  have hb1 := on hb0 z1
  have b_0 : w1.cell? ⟨w.heap.size, 0, none⟩ = some (.int .i64 x.1) := by rw [hw1]; exact box_cell (Below.refl _ _) rfl
  have b_1 : w1.cell? ⟨w.heap.size, 1, none⟩ = some (.slice ub un uc) := by rw [hw1]; exact box_cell (Below.refl _ _) rfl
  have raw1_b_0 := b_0
  have raw1_b_1 := b_1
  rw [hw1] at raw1_b_0 raw1_b_1
  go_wp2_with fail
  rw [← hw1]
  clear hw1
  clear raw1_b_0 raw1_b_1
  refine (validQ_impl _ x _ (rQ.mono h hb1)).mono ?_
  rintro e w2 ⟨rfl, z2⟩
  have s3 := z2.size
  have hb3 := on hb1 z2
  replace b_0 := (z2.cell (p := ⟨w.heap.size, 0, none⟩) (by simp only []; omega)).trans b_0
  replace b_1 := (z2.cell (p := ⟨w.heap.size, 1, none⟩) (by simp only []; omega)).trans b_1
  by_cases hv : validQ x = true
  case neg =>
    replace hv : validQ x = false := by simpa using hv
    have HE := Lib.hid (show maskOkB x k = false by simp [maskOkB, hv])
    clear hl
    go_wp2_with fail
    go_ret
    exact ⟨ret_bool HE.out.symm, hb3⟩
  have h9 : un ≤ 16 := by obtain ⟨n, hq⟩ := QOk.of hv; have := hq.len; omega
  have HE := Lib.hid (show betw k 0 (wrap64 (wrap64 ((2 : Int) ^ un) - 1)) = maskOkB x k by rw [full_int h9, ← hl]; simp [maskOkB, hv])
  clear hl
  go_wp2_with fail
  refine (within_any _ _ _ _).mono ?_
  rintro e w' ⟨rfl, rfl⟩
  obtain ⟨t, ht⟩ : ∃ t, t = betw k 0 (wrap64 (wrap64 ((2 : Int) ^ un) - 1)) := ⟨_, rfl⟩
  rw [← ht] at HE ⊢
  clear ht
  go_wp2_with fail
  go_ret
  exact ⟨ret_bool HE.out, hb3⟩

set_option maxHeartbeats 800000 in
theorem maskOk_spec (cs : List Value) (x : DQ) (k : Int) (w : World) (h : rQ.rep w cs x) :
    Calls Tryd.prog 40 #[.agg cs.toArray, .int .i64 k] w fun e w' => e = .returned (.bool (maskOkB x k)) ∧ Below w.heap.size w w' := by
  obtain ⟨ub, un, uc, rfl, hi, g1⟩ := rQ_open h
  have hl := (rS_sl g1).len
  clear g1 hi
  have hb0 : Below w.heap.size w w := Below.refl _ _
  go_enter Tryd.func40, Tryd.ntmps40
  obtain ⟨w1, hw1⟩ : ∃ W, W = w.alloc (.cells #[.int .i64 x.1, .slice ub un uc] 24) := ⟨_, rfl⟩
  have z1 : Below w.heap.size w w1 := by rw [hw1]; exact (Below.refl _ _).alloc (Nat.le_refl _) _
  have s1 : w1.heap.size = w.heap.size + 1 := by rw [hw1]; simp
  have hb1 := on hb0 z1
  have b_0 : w1.cell? ⟨w.heap.size, 0, none⟩ = some (.int .i64 x.1) := by rw [hw1]; exact box_cell (Below.refl _ _) rfl
  have b_1 : w1.cell? ⟨w.heap.size, 1, none⟩ = some (.slice ub un uc) := by rw [hw1]; exact box_cell (Below.refl _ _) rfl
  have raw1_b_0 := b_0
  have raw1_b_1 := b_1
  rw [hw1] at raw1_b_0 raw1_b_1
  go_wp2_with fail
  rw [← hw1]
  clear hw1
  clear raw1_b_0 raw1_b_1
  refine (validQ_spec _ x _ (rQ.mono h hb1)).mono ?_
  rintro e w2 ⟨rfl, z2⟩
  have s3 := z2.size
  have hb3 := on hb1 z2
  replace b_0 := (z2.cell (p := ⟨w.heap.size, 0, none⟩) (by simp only []; omega)).trans b_0
  replace b_1 := (z2.cell (p := ⟨w.heap.size, 1, none⟩) (by simp only []; omega)).trans b_1
  by_cases hv : validQ x = true
  case neg =>
    replace hv : validQ x = false := by simpa using hv
    have HE := Lib.hid (show maskOkB x k = false by simp [maskOkB, hv])
    clear hl
    go_wp2_with fail
    go_ret
    exact ⟨ret_bool HE.out.symm, hb3⟩
  have h9 : un ≤ 16 := by obtain ⟨n, hq⟩ := QOk.of hv; have := hq.len; omega
  have HE := Lib.hid (show betw k 0 (wrap64 (wrap64 ((2 : Int) ^ un) - 1)) = maskOkB x k by rw [full_int h9, ← hl]; simp [maskOkB, hv])
  clear hl
  go_wp2_with fail
  refine (l1In_any _ _ _ _).mono ?_
  rintro e w' ⟨rfl, rfl⟩
  obtain ⟨t, ht⟩ : ∃ t, t = betw k 0 (wrap64 (wrap64 ((2 : Int) ^ un) - 1)) := ⟨_, rfl⟩
  rw [← ht] at HE ⊢
  clear ht
  go_wp2_with fail
  go_ret
  exact ⟨ret_bool HE.out, hb3⟩

end Go.Proofs.YtpgfkjcekhifiaaDoor

/- Contracts: the variables of a mask. -/
namespace Go.Proofs.YtpgfkjcekhifiaaDoor
open Go.RowKit
set_option linter.unusedVariables false
set_option linter.unusedSimpArgs false
set_option synthInstance.maxSize 2000
set_option synthInstance.maxHeartbeats 400000

set_option maxHeartbeats 1000000 in
theorem l7Bits_any (cs : List Value) (x : DQ) (K n : Nat) (w : World) (h : rQ.rep w cs x) (hq : QOk x n) (hK : K < 16) :
    Calls Tryd.prog 42 #[.agg cs.toArray, .int .i64 K] w fun e w' => e = .returned (.int .i64 (bitsOf x K)) ∧ Below w.heap.size w w' := by
  obtain ⟨ub, un, uc, rfl, hi, g1⟩ := rQ_open h
  clear h hi
  obtain ⟨i, xs⟩ := x
  simp only at g1
  have t0 := rS_sl g1
  have hl := t0.len
  have hn4 := hq.le
  have hl4 := hq.len
  simp only at hl4
  have hun : un ≤ 4 := by omega
  have HQ := Lib.hid hq
  have HB := Lib.hid (show bitsOf (i, xs) K = qbits K 0 0 (xs.drop 0) by simp [bitsOf])
  clear hq hl4
  have hb0 : Below w.heap.size w w := Below.refl _ _
  go_enter Tryd.func42, Tryd.ntmps42
  obtain ⟨w1, hw1⟩ : ∃ W, W = w.alloc (.cells #[.int .i64 i, .slice ub un uc] 24) := ⟨_, rfl⟩
  have z1 : Below w.heap.size w w1 := by rw [hw1]; exact (Below.refl _ _).alloc (Nat.le_refl _) _
  have s1 : w1.heap.size = w.heap.size + 1 := by rw [hw1]; simp
  have hb1 := on hb0 z1
  have b_0 : w1.cell? ⟨w.heap.size, 0, none⟩ = some (.int .i64 i) := by rw [hw1]; exact box_cell (Below.refl _ _) rfl
  have b_1 : w1.cell? ⟨w.heap.size, 1, none⟩ = some (.slice ub un uc) := by rw [hw1]; exact box_cell (Below.refl _ _) rfl
  have raw1_b_0 := b_0
  have raw1_b_1 := b_1
  rw [hw1] at raw1_b_0 raw1_b_1
  go_wp2_with fail
  rw [← hw1]
  clear hw1
  clear raw1_b_0 raw1_b_1
  go_loopw [5, 6] (fun s k wr => ∃ j m : Nat, j ≤ un ∧ m < 2 ^ n ∧ k = .int .i64 j ∧ s = .int .i64 m ∧ Hid (bitsOf (i, xs) K = qbits K m j (xs.drop j)) ∧ Drew w1 wr) (fun _ k _ => un - (intOf k).toNat)
  case atStart => exact ⟨0, 0, Nat.zero_le _, Nat.two_pow_pos _, rfl, rfl, HB.out, Drew.refl _⟩
  case round =>
    obtain ⟨j, m, hj, hm, rfl, rfl, hE, hdr⟩ := hrel
    obtain ⟨wo, rfl⟩ : ∃ W, W = wr := ⟨_, rfl⟩
    have hlc := hdr
    replace hdr : Below w1.heap.size w1 wo := hdr.below _
    have s2 := hdr.size
    have hb2 := on hb1 hdr
    replace b_0 := (hdr.cell (p := ⟨w.heap.size, 0, none⟩) (by simp only []; omega)).trans b_0
    replace b_1 := (hdr.cell (p := ⟨w.heap.size, 1, none⟩) (by simp only []; omega)).trans b_1
    by_cases hlt : j < un
    · obtain ⟨b1, o1, cs, x, rfl, hx, hr, hc⟩ := t0.at hlt
      obtain ⟨s, vs⟩ := x
      obtain ⟨vb, vn, vc, rfl, hs, g2⟩ := rA_open hr
      simp only at hs g2
      have i0 := rI_ints g2
      have hvl := i0.len
      have hvs := i0.small
      have e_lt : b1 < w.heap.size := cell_lt (hc 0 _ rfl)
      have e_0 : wo.cell? ⟨b1, o1 + j * 2, none⟩ = some (.string s) := (hb2.cell (p := ⟨b1, o1 + j * 2, none⟩) e_lt).trans (by have h9 := hc 0 _ rfl; rw [← Nat.add_assoc] at h9; exact h9)
      have e_1 : wo.cell? ⟨b1, o1 + j * 2 + 1, none⟩ = some (.slice vb vn vc) := (hb2.cell (p := ⟨b1, o1 + j * 2 + 1, none⟩) e_lt).trans (by have h9 := hc 1 _ rfl; rw [← Nat.add_assoc] at h9; exact h9)
      have HA := Lib.hid (hE.out.trans (qbits_at hx.out))
      have HV := Lib.hid (HQ.out.vars _ (List.mem_of_getElem? hx.out))
      clear hc t0 hr hl hx hE HB
      simp only at HA HV
      have hbt := bit_test K j (by omega)
      cases hb : bitAt K j with
      | true =>
        rw [hb] at HA hbt
        replace HA : Hid (bitsOf (i, xs) K = qbits K (vbits m (vs.drop 0)) (j + 1) (xs.drop (j + 1))) := Lib.hid (by rw [HA.out]; simp)
        clear hb
        go_wp2_with fail
        go_loopw [5, 7] (fun s k wr => ∃ i' m : Nat, i' ≤ vn ∧ m < 2 ^ n ∧ k = .int .i64 i' ∧ s = .int .i64 m ∧ Hid (bitsOf (i, xs) K = qbits K (vbits m (vs.drop i')) (j + 1) (xs.drop (j + 1))) ∧ Drew wo wr) (fun _ k _ => vn - (intOf k).toNat)
        case atStart => exact ⟨0, m, Nat.zero_le _, hm, rfl, rfl, HA.out, Drew.refl _⟩
        case round =>
          obtain ⟨i', m, hi, hm, rfl, rfl, hE, hdr⟩ := hrel
          have hlo := hdr
          replace hdr : Below wo.heap.size wo wr := hdr.below _
          have s3 := hdr.size
          have hb3 := on hb2 hdr
          replace b_0 := (hdr.cell (p := ⟨w.heap.size, 0, none⟩) (by simp only []; omega)).trans b_0
          replace b_1 := (hdr.cell (p := ⟨w.heap.size, 1, none⟩) (by simp only []; omega)).trans b_1
          replace e_0 := (hdr.cell (p := ⟨b1, o1 + j * 2, none⟩) (by simp only []; omega)).trans e_0
          replace e_1 := (hdr.cell (p := ⟨b1, o1 + j * 2 + 1, none⟩) (by simp only []; omega)).trans e_1
          have hm16 := pow_le16 hn4
          by_cases hlv : i' < vn
          · obtain ⟨b2, o2, v, rfl, hc, hv, hv1, hv2⟩ := i0.get hlv
            have v0_lt : b2 < w.heap.size := cell_lt hc
            have v0 : wr.cell? ⟨b2, o2 + i', none⟩ = some (.int .i64 v) := (hb3.cell (p := ⟨b2, o2 + i', none⟩) v0_lt).trans hc
            clear hc
            have hvr := HV.out v (by rw [← hv.out]; exact List.getD_eq_getElem?_getD (l := vs) ▸ (by rw [List.getElem?_eq_getElem (by omega)]; exact List.getElem_mem _))
            obtain ⟨v, rfl⟩ := Int.eq_ofNat_of_zero_le hvr.1
            have hvn : v < n := by omega
            have HE := Lib.hid (hE.out.trans (show _ = qbits K (vbits (m ||| 2 ^ v) (vs.drop (i' + 1))) (j + 1) (xs.drop (j + 1)) by rw [vbits_at (by omega) hv.out]))
            have hmo := or_lt hm hvn
            clear i0 hvl hvr hv hE
            go_wp2_with fail
            go_roundw
            case rel => exact ⟨i' + 1, m ||| 2 ^ v, by omega, hmo, by go_num, by show Value.int _ _ = _; rw [or_pow (by omega) (by omega)], HE.out, hlo⟩
            case measure => simp [intOf]; omega
          · have HE := Lib.hid (show bitsOf (i, xs) K = qbits K m (j + 1) (xs.drop (j + 1)) by rw [hE.out, vbits_end (by omega)])
            clear i0 hvl hE
            go_wp2_with fail
            go_roundw
            case rel => exact ⟨j + 1, m, by omega, hm, by go_num, rfl, HE.out, hlc.trans hlo⟩
            case measure => simp [intOf]; omega
      | false =>
        rw [hb] at HA hbt
        replace HA : Hid (bitsOf (i, xs) K = qbits K m (j + 1) (xs.drop (j + 1))) := Lib.hid (by rw [HA.out]; simp)
        clear hb
        go_wp2_with fail
        go_loopw [5, 7] (fun s k wr => k = .int .i64 0 ∧ s = .int .i64 m ∧ wr = wo) (fun _ _ _ => 0)
        case atStart => exact ⟨rfl, rfl, rfl⟩
        case round =>
          obtain ⟨rfl, rfl, rfl⟩ := hrel
          clear i0 hvl
          by_cases hv0 : 0 < vn
          all_goals
            go_wp2_with fail
            go_roundw
            case rel => exact ⟨j + 1, m, by omega, hm, by go_num, rfl, HA.out, hlc⟩
            case measure => simp [intOf]; omega
    · have HE := Lib.hid (hE.out.trans (qbits_end (by omega)))
      clear t0 hl hE HB
      go_wp2_with fail
      go_ret
      exact ⟨ret_int (by rw [HE.out]), hb2⟩

set_option maxHeartbeats 1000000 in
theorem l7List_any (M : Nat) (w : World) (hM : M < 16) :
    Calls Tryd.prog 41 #[.int .i64 M] w fun e w' => ∃ b n c, e = .returned (.slice b n c) ∧ OwnInts w.heap.size w' (.slice b n c) n (bitsTo M 4) ∧ Below w.heap.size w w' := by
  go_enter Tryd.func41, Tryd.ntmps41
  go_wp2
  go_loopw [3, 4] (fun v i wr => ∃ (j : Nat), j ≤ 4 ∧ i = .int .i64 j ∧ ∃ n, OwnInts w.heap.size wr v n (bitsTo M j) ∧ Below w.heap.size w wr) (fun _ i _ => 4 - (intOf i).toNat)
  case atStart => exact ⟨0, Nat.zero_le _, rfl, 0, own_empty (Nat.le_refl _), (Below.refl _ _).alloc (Nat.le_refl _) _⟩
  case round =>
    obtain ⟨j, hj, rfl, n, hown, hbl⟩ := hrel
    have hsz := hbl.size
    have hn4 : n ≤ 4 := by have := hown.len; have := bitsTo_len M j; omega
    by_cases hlt : j < 4
    · cases hbit : bitAt M j with
      | true =>
        have ht := bit_test M j (by omega)
        rw [hbit] at ht
        have HB := Lib.hid hbit
        clear hbit
        go_wp2_with ((at_builtin; refine wpList_app1 _ _ _ _ _ _ hown hbl hsz ⟨by omega, by omega⟩ (by omega) rfl rfl rfl rfl ?_; intro v' w1 hown' hb' hsz'))
        rw [← bitsTo_yes HB.out] at hown'
        go_roundw
        case rel => exact ⟨j + 1, by omega, by go_num, n + 1, hown', hb'⟩
        case measure => simp [intOf]; omega
      | false =>
        have ht := bit_test M j (by omega)
        rw [hbit] at ht
        rw [← bitsTo_no hbit] at hown
        have HO := Lib.hid hown
        clear hbit hown
        go_wp2_with fail
        go_roundw
        case rel => exact ⟨j + 1, by omega, by go_num, n, HO.out, hbl⟩
        case measure => simp [intOf]; omega
    · obtain rfl : j = 4 := by omega
      obtain ⟨a, cap, rfl, _⟩ := own_form hown.row
      go_wp2
      go_ret
      exact ⟨_, _, _, rfl, hown, hbl⟩

set_option maxHeartbeats 1000000 in
theorem maskVars_spec (cs : List Value) (x : DQ) (k : Int) (w : World) (h : rQ.rep w cs x) :
    Calls Tryd.prog 15 #[.agg cs.toArray, .int .i64 k] w fun e w' => ∃ u, e = .returned u ∧ Own oI w.heap.size w'.heap.size w' [u] (maskVars x k) ∧ Below w.heap.size w w' := by
  obtain ⟨ub, un, uc, rfl⟩ := rQ_form h
  have hb0 : Below w.heap.size w w := Below.refl _ _
  go_enter Tryd.func15, Tryd.ntmps15
  obtain ⟨w1, hw1⟩ : ∃ W, W = w.alloc (.cells #[.int .i64 x.1, .slice ub un uc] 24) := ⟨_, rfl⟩
  have z1 : Below w.heap.size w w1 := by rw [hw1]; exact (Below.refl _ _).alloc (Nat.le_refl _) _
  have s1 : w1.heap.size = w.heap.size + 1 := by rw [hw1]; simp
  have hb1 := on hb0 z1
  have b_0 : w1.cell? ⟨w.heap.size, 0, none⟩ = some (.int .i64 x.1) := by rw [hw1]; exact box_cell (Below.refl _ _) rfl
  have b_1 : w1.cell? ⟨w.heap.size, 1, none⟩ = some (.slice ub un uc) := by rw [hw1]; exact box_cell (Below.refl _ _) rfl
  have raw1_b_0 := b_0
  have raw1_b_1 := b_1
  rw [hw1] at raw1_b_0 raw1_b_1
  go_wp2_with fail
  rw [← hw1]
  clear hw1
  clear raw1_b_0 raw1_b_1
  refine (maskOk_spec _ x k _ (rQ.mono h hb1)).mono ?_
  rintro e w2 ⟨rfl, z2⟩
  have s3 := z2.size
  have hb3 := on hb1 z2
  replace b_0 := (z2.cell (p := ⟨w.heap.size, 0, none⟩) (by simp only []; omega)).trans b_0
  replace b_1 := (z2.cell (p := ⟨w.heap.size, 1, none⟩) (by simp only []; omega)).trans b_1
  by_cases hv : maskOkB x k = true
  case neg =>
    replace hv : maskOkB x k = false := by simpa using hv
    have HE := Lib.hid (maskVars_no hv)
    go_wp2_with fail
    go_ret
    exact ⟨_, rfl, by rw [HE.out]; exact ((own_empty (Nat.le_refl _)).own).mono (by omega) (Nat.le_refl _), hb3.trans ((Below.refl _ _).alloc (by omega) _)⟩
  obtain ⟨K, rfl, hK⟩ := maskOkB_lt hv
  obtain ⟨n, hq⟩ := QOk.of (maskOkB_valid hv)
  have HE := Lib.hid (maskVars_yes hv)
  have HK := pow_le16 hq.len
  have hK16 : K < 16 := by omega
  clear hK HK
  go_wp2_with fail
  refine (l7Bits_any _ x K n _ (rQ.mono h hb3) hq hK16).mono ?_
  rintro e w4 ⟨rfl, z4⟩
  have s5 := z4.size
  have hb5 := on hb3 z4
  replace b_0 := (z4.cell (p := ⟨w.heap.size, 0, none⟩) (by simp only []; omega)).trans b_0
  replace b_1 := (z4.cell (p := ⟨w.heap.size, 1, none⟩) (by simp only []; omega)).trans b_1
  have hb16 : bitsOf x K < 16 := Nat.lt_of_lt_of_le (hq.bits_lt K) (pow_le16 hq.le)
  have HQ := Lib.hid hq
  clear hq
  go_wp2_with fail
  refine (l7List_any _ _ hb16).mono ?_
  rintro e w9 ⟨b, n9, c, rfl, ho, z9⟩
  have s6 := z9.size
  have hb6 := on hb5 z9
  replace b_0 := (z9.cell (p := ⟨w.heap.size, 0, none⟩) (by simp only []; omega)).trans b_0
  replace b_1 := (z9.cell (p := ⟨w.heap.size, 1, none⟩) (by simp only []; omega)).trans b_1
  go_wp2_with fail
  go_ret
  exact ⟨_, rfl, by rw [HE.out]; exact ho.own.mono (by omega) (Nat.le_refl _), hb6⟩

end Go.Proofs.YtpgfkjcekhifiaaDoor

/- Contracts: the variables of a mask, by the program; shared variables. -/
namespace Go.Proofs.YtpgfkjcekhifiaaDoor
open Go.RowKit
set_option linter.unusedVariables false
set_option linter.unusedSimpArgs false
set_option synthInstance.maxSize 2000
set_option synthInstance.maxHeartbeats 400000

theorem own_empty' {B : Nat} {W : World} {g : Nat} (hB : B ≤ W.heap.size) (hg : W.heap.size = g) : OwnInts B (W.alloc (.cells #[] 3)) (.slice (some ⟨g, 0, none⟩) 0 0) 0 [] := by
  subst hg; exact own_empty hB

theorem wpList_app1g {B : Nat} {w0 W : World} {ops : Array Oper} {rest : List Oper} {o : Oper} {a : Act} {Q : Exit → Act → World → Prop}
    (s x : Operand) (v : Value) (n g : Nat) (xs : List Int) (u : Int)
    (hown : OwnInts B W v n xs) (hb : Below B w0 W) (hB : B ≤ W.heap.size) (hu : I64 u) (hn : n ≤ 1000000000000) (hg : W.heap.size = g)
    (hgd : o.guard = none) (ho : o.op = .call { callee := .builtin .append, args := #[s, x], argTypes := #[34, 34] })
    (hs : a.eval s = v) (hx : a.eval x = .slice (some ⟨g, 0, none⟩) 1 1)
    (h : ∀ v' w', OwnInts B w' v' (n + 1) (xs ++ [u]) → Below B w0 w' → B ≤ w'.heap.size → wpList Tryd.prog ops Q rest (a.put o.dst v') w') :
    wpList Tryd.prog ops Q (o :: rest) a (W.alloc (.cells #[.int .i64 u] 3)) := by
  subst hg
  exact wpList_app1 s x v n xs u hown hb hB hu hn hgd ho hs hx h

set_option maxHeartbeats 2000000 in
theorem variables_any (cs : List Value) (x : DQ) (K n : Nat) (w : World) (h : rQ.rep w cs x) (hq : QOk x n) (hK : K < 16) :
    Calls Tryd.prog 38 #[.agg cs.toArray, .int .i64 K] w fun e w' => ∃ u, e = .returned u ∧ Own oI w.heap.size w'.heap.size w' [u] (varsOf x K) ∧ Below w.heap.size w w' := by
  obtain ⟨ub, un, uc, rfl, hi, g1⟩ := rQ_open h
  clear h hi
  obtain ⟨i, xs⟩ := x
  simp only at g1
  have t0 := rS_sl g1
  have hl := t0.len
  have hn4 := hq.le
  have hl4 := hq.len
  have hcnt := hq.cnt
  simp only at hl4 hcnt
  subst hcnt
  have hun : un ≤ 4 := by omega
  have HQ := Lib.hid hq
  obtain ⟨M, hM⟩ : ∃ M, M = bitsOf ((n : Int), xs) K := ⟨_, rfl⟩
  have HV := Lib.hid (show bitsTo M n = varsOf ((n : Int), xs) K by rw [hq.varsOf K, hM])
  have HS := Lib.hid (show ∀ v, bitAt M v = someFrom K v 0 (xs.drop 0) by intro v; rw [hM]; exact hq.some K v)
  clear hq hl4 hM
  have hb0 : Below w.heap.size w w := Below.refl _ _
  go_enter Tryd.func38, Tryd.ntmps38
  obtain ⟨w1, hw1⟩ : ∃ W, W = w.alloc (.cells #[.int .i64 n, .slice ub un uc] 24) := ⟨_, rfl⟩
  have z1 : Below w.heap.size w w1 := by rw [hw1]; exact (Below.refl _ _).alloc (Nat.le_refl _) _
  have s1 : w1.heap.size = w.heap.size + 1 := by rw [hw1]; simp
  have hb1 := on hb0 z1
  have b_0 : w1.cell? ⟨w.heap.size, 0, none⟩ = some (.int .i64 n) := by rw [hw1]; exact box_cell (Below.refl _ _) rfl
  have b_1 : w1.cell? ⟨w.heap.size, 1, none⟩ = some (.slice ub un uc) := by rw [hw1]; exact box_cell (Below.refl _ _) rfl
  have raw1_b_0 := b_0
  have raw1_b_1 := b_1
  rw [hw1] at raw1_b_0 raw1_b_1
  go_wp2_with fail
  rw [← hw1]
  clear hw1
  clear raw1_b_0 raw1_b_1
  go_loopw [5, 6] (fun s k wr => ∃ j q : Nat, j ≤ n ∧ k = .int .i64 j ∧ OwnInts w1.heap.size wr s q (bitsTo M j) ∧ Below w1.heap.size w1 wr) (fun _ k _ => n - (intOf k).toNat)
  case atStart => exact ⟨0, 0, Nat.zero_le _, rfl, own_empty' (Nat.le_refl _) (by omega), (Below.refl _ _).alloc (Nat.le_refl _) _⟩
  case round =>
    obtain ⟨j, q, hj, rfl, hown, hdr⟩ := hrel
    obtain ⟨wo, rfl⟩ : ∃ W, W = wr := ⟨_, rfl⟩
    have hlc := hdr
    have s2 := hdr.size
    have hb2 := on hb1 hdr
    replace b_0 := (hdr.cell (p := ⟨w.heap.size, 0, none⟩) (by simp only []; omega)).trans b_0
    replace b_1 := (hdr.cell (p := ⟨w.heap.size, 1, none⟩) (by simp only []; omega)).trans b_1
    have hq4 : q ≤ 4 := by have := hown.len; have := bitsTo_len M j; omega
    by_cases hlt : j < n
    · go_wp2_with fail
      obtain ⟨a, cap, rfl, hqs, hqa⟩ := own_form hown.row
      go_loopw [5, 19] (fun s k wr => ∃ i' : Nat, i' ≤ un ∧ k = .int .i64 i' ∧ s = .slice a q cap ∧ Hid (bitAt M j = someFrom K j i' (xs.drop i')) ∧ Below wo.heap.size wo wr) (fun _ k _ => un - (intOf k).toNat)
      case atStart => exact ⟨0, Nat.zero_le _, rfl, rfl, HS.out j, Below.refl _ _⟩
      case round =>
        obtain ⟨i', hi, rfl, rfl, hE, hdr⟩ := hrel
        have hld := hdr
        have s3 := hdr.size
        have hb3 := on hb2 hdr
        replace b_0 := (hdr.cell (p := ⟨w.heap.size, 0, none⟩) (by simp only []; omega)).trans b_0
        replace b_1 := (hdr.cell (p := ⟨w.heap.size, 1, none⟩) (by simp only []; omega)).trans b_1
        replace hlc := on hlc hdr
        replace hown := hown.below hdr
        by_cases hlv : i' < un
        · obtain ⟨b1, o1, cs, x, rfl, hx, hr, hc⟩ := t0.at hlv
          obtain ⟨s, vs⟩ := x
          obtain ⟨vb, vn, vc, rfl, hs, g2⟩ := rA_open hr
          simp only at hs g2
          have e_lt : b1 < w.heap.size := cell_lt (hc 0 _ rfl)
          have e_0 : wr.cell? ⟨b1, o1 + i' * 2, none⟩ = some (.string s) := (hb3.cell (p := ⟨b1, o1 + i' * 2, none⟩) e_lt).trans (by have h9 := hc 0 _ rfl; rw [← Nat.add_assoc] at h9; exact h9)
          have e_1 : wr.cell? ⟨b1, o1 + i' * 2 + 1, none⟩ = some (.slice vb vn vc) := (hb3.cell (p := ⟨b1, o1 + i' * 2 + 1, none⟩) e_lt).trans (by have h9 := hc 1 _ rfl; rw [← Nat.add_assoc] at h9; exact h9)
          have HA := Lib.hid (hE.out.trans (someFrom_at hx.out))
          clear hc t0 hr hl hx hE HV HS
          simp only at HA
          obtain ⟨w4, hw4⟩ : ∃ W, W = wr.alloc (.cells #[.string s, .slice vb vn vc] 43) := ⟨_, rfl⟩
          have z4 : Below wr.heap.size wr w4 := by rw [hw4]; exact (Below.refl _ _).alloc (Nat.le_refl _) _
          have s4 : w4.heap.size = wr.heap.size + 1 := by rw [hw4]; simp
          have hb4 := on hb3 z4
          have old4_b_0 := b_0
          have old4_b_1 := b_1
          have old4_e_0 := e_0
          have old4_e_1 := e_1
          replace b_0 := (z4.cell (p := ⟨w.heap.size, 0, none⟩) (by simp only []; omega)).trans b_0
          replace b_1 := (z4.cell (p := ⟨w.heap.size, 1, none⟩) (by simp only []; omega)).trans b_1
          replace hlc := on hlc z4
          replace hown := hown.below z4
          replace hld := on hld z4
          replace e_0 := (z4.cell (p := ⟨b1, o1 + i' * 2, none⟩) (by simp only []; omega)).trans e_0
          replace e_1 := (z4.cell (p := ⟨b1, o1 + i' * 2 + 1, none⟩) (by simp only []; omega)).trans e_1
          have p_0 : w4.cell? ⟨wr.heap.size, 0, none⟩ = some (.string s) := by rw [hw4]; exact box_cell (Below.refl _ _) rfl
          have p_1 : w4.cell? ⟨wr.heap.size, 1, none⟩ = some (.slice vb vn vc) := by rw [hw4]; exact box_cell (Below.refl _ _) rfl
          have raw4_b_0 := b_0
          have raw4_b_1 := b_1
          have raw4_e_0 := e_0
          have raw4_e_1 := e_1
          have raw4_p_0 := p_0
          have raw4_p_1 := p_1
          rw [hw4] at raw4_b_0 raw4_b_1 raw4_e_0 raw4_e_1 raw4_p_0 raw4_p_1
          have hbt := bit_test K i' (by omega)
          have hlt2 : (j : Int) < n := by omega
          cases hb : bitAt K i' with
          | true =>
            rw [hb] at HA hbt
            have i0 := (rI_ints g2).below hb4
            clear hb
            go_wp2_with fail
            rw [← hw4]
            clear hw4
            clear old4_b_0 old4_b_1 old4_e_0 old4_e_1 raw4_b_0 raw4_b_1 raw4_e_0 raw4_e_1 raw4_p_0 raw4_p_1
            refine (contains_any _ _ _ _ _ _ i0).mono ?_
            rintro e w' ⟨rfl, rfl⟩
            obtain ⟨t, ht⟩ : ∃ t, t = has vs (j : Int) := ⟨_, rfl⟩
            rw [← ht] at HA ⊢
            clear ht i0
            cases t with
            | true =>
              have HB := Lib.hid (bitsTo_yes (show bitAt M j = true by rw [HA.out]; simp))
              have hsz := hlc.size
              go_wp2_with ((at_builtin; refine wpList_app1g _ _ _ _ _ _ _ hown hlc hsz ⟨by omega, by omega⟩ (by omega) (by omega) rfl rfl rfl rfl ?_; intro v' w9 hown' hb' hsz'))
              rw [← HB.out] at hown'
              go_roundw
              case rel => exact ⟨j + 1, q + 1, by omega, by go_num, hown', hb'⟩
              case measure => simp [intOf]; omega
            | false =>
              have HE := Lib.hid (show bitAt M j = someFrom K j (i' + 1) (xs.drop (i' + 1)) by rw [HA.out]; simp)
              go_wp2_with fail
              go_roundw
              case rel => exact ⟨i' + 1, by omega, by go_num, rfl, HE.out, hld⟩
              case measure => simp [intOf]; omega
          | false =>
            rw [hb] at HA hbt
            have HE := Lib.hid (show bitAt M j = someFrom K j (i' + 1) (xs.drop (i' + 1)) by rw [HA.out]; simp)
            clear hb HA
            go_wp2_with fail
            rw [← hw4]
            clear hw4
            clear old4_b_0 old4_b_1 old4_e_0 old4_e_1 raw4_b_0 raw4_b_1 raw4_e_0 raw4_e_1 raw4_p_0 raw4_p_1
            go_roundw
            case rel => exact ⟨i' + 1, by omega, by go_num, rfl, HE.out, hld⟩
            case measure => simp [intOf]; omega
        · rw [← bitsTo_no (hE.out.trans (someFrom_end (by omega)))] at hown
          have HO := Lib.hid hown
          clear t0 hl hE hown
          go_wp2_with fail
          go_roundw
          case rel => exact ⟨j + 1, q, by omega, by go_num, HO.out, hlc⟩
          case measure => simp [intOf]; omega
    · obtain rfl : j = n := by omega
      obtain ⟨a, cap, rfl, _⟩ := own_form hown.row
      rw [HV.out] at hown
      have HO := Lib.hid (show Own oI w.heap.size wo.heap.size wo [.slice a q cap] _ from hown.own.mono (by omega) (Nat.le_refl _))
      clear t0 hl hown
      go_wp2_with fail
      go_ret
      exact ⟨_, rfl, HO.out, hb2⟩

set_option maxHeartbeats 1000000 in
theorem maskVars_impl (cs : List Value) (x : DQ) (k : Int) (w : World) (h : rQ.rep w cs x) :
    Calls Tryd.prog 12 #[.agg cs.toArray, .int .i64 k] w fun e w' => ∃ u, e = .returned u ∧ Own oI w.heap.size w'.heap.size w' [u] (maskVars x k) ∧ Below w.heap.size w w' := by
  obtain ⟨ub, un, uc, rfl⟩ := rQ_form h
  have hb0 : Below w.heap.size w w := Below.refl _ _
  go_enter Tryd.func12, Tryd.ntmps12
  obtain ⟨w1, hw1⟩ : ∃ W, W = w.alloc (.cells #[.int .i64 x.1, .slice ub un uc] 24) := ⟨_, rfl⟩
  have z1 : Below w.heap.size w w1 := by rw [hw1]; exact (Below.refl _ _).alloc (Nat.le_refl _) _
  have s1 : w1.heap.size = w.heap.size + 1 := by rw [hw1]; simp
  have hb1 := on hb0 z1
  have b_0 : w1.cell? ⟨w.heap.size, 0, none⟩ = some (.int .i64 x.1) := by rw [hw1]; exact box_cell (Below.refl _ _) rfl
  have b_1 : w1.cell? ⟨w.heap.size, 1, none⟩ = some (.slice ub un uc) := by rw [hw1]; exact box_cell (Below.refl _ _) rfl
  have raw1_b_0 := b_0
  have raw1_b_1 := b_1
  rw [hw1] at raw1_b_0 raw1_b_1
  go_wp2_with fail
  rw [← hw1]
  clear hw1
  clear raw1_b_0 raw1_b_1
  refine (maskOk_impl _ x k _ (rQ.mono h hb1)).mono ?_
  rintro e w2 ⟨rfl, z2⟩
  have s3 := z2.size
  have hb3 := on hb1 z2
  replace b_0 := (z2.cell (p := ⟨w.heap.size, 0, none⟩) (by simp only []; omega)).trans b_0
  replace b_1 := (z2.cell (p := ⟨w.heap.size, 1, none⟩) (by simp only []; omega)).trans b_1
  by_cases hv : maskOkB x k = true
  case neg =>
    replace hv : maskOkB x k = false := by simpa using hv
    have HE := Lib.hid (maskVars_no hv)
    go_wp2_with fail
    go_ret
    exact ⟨_, rfl, by rw [HE.out]; exact (OwnInts.nil _ _).own, hb3⟩
  obtain ⟨K, rfl, hK⟩ := maskOkB_lt hv
  obtain ⟨n, hq⟩ := QOk.of (maskOkB_valid hv)
  have HE := Lib.hid (maskVars_yes hv)
  have HK := pow_le16 hq.len
  have hK16 : K < 16 := by omega
  clear hK HK
  go_wp2_with fail
  refine (variables_any _ x K n _ (rQ.mono h hb3) hq hK16).mono ?_
  rintro e w9 ⟨u, rfl, ho, z9⟩
  obtain ⟨ub', un', uc', rfl⟩ := oI_form1 ho
  have s4 := z9.size
  have hb4 := on hb3 z9
  replace b_0 := (z9.cell (p := ⟨w.heap.size, 0, none⟩) (by simp only []; omega)).trans b_0
  replace b_1 := (z9.cell (p := ⟨w.heap.size, 1, none⟩) (by simp only []; omega)).trans b_1
  clear hq
  go_wp2_with fail
  go_ret
  exact ⟨_, rfl, by rw [HE.out]; exact ho.mono (by omega) (Nat.le_refl _), hb4⟩

theorem maskVars_cnt (q : DQ) (k : Int) : cnt_I (maskVars q k) ≤ 4 := maskVars_len q k

set_option maxHeartbeats 1000000 in
theorem both_any (u v : Value) (xs ys : List Int) (w : World) (h : rI.rep w [u] xs) (h' : rI.rep w [v] ys) (hn : xs.length ≤ 1048576) :
    Calls Tryd.prog 39 #[u, v] w fun e w' => ∃ u, e = .returned u ∧ Own oI w.heap.size w'.heap.size w' [u] (both xs ys) ∧ Below w.heap.size w w' := by
  obtain ⟨a, cap, rfl, _, _, hi⟩ := rI_open h
  obtain ⟨a', cap', rfl, _, _, hi'⟩ := rI_open h'
  clear h h'
  obtain ⟨n, hl⟩ : ∃ n, xs.length = n := ⟨_, rfl⟩
  rw [hl] at hi hn ⊢
  go_enter Tryd.func39, Tryd.ntmps39
  go_wp2
  go_loopw [5, 11] (fun v i wr => ∃ (j : Nat), j ≤ n ∧ i = .int .i64 j ∧ ∃ q, OwnInts w.heap.size wr v q (both (xs.take j) ys) ∧ Below w.heap.size w wr) (fun _ i _ => n - (intOf i).toNat)
  case atStart => exact ⟨0, Nat.zero_le _, rfl, 0, by rw [List.take_zero]; exact own_empty (Nat.le_refl _), (Below.refl _ _).alloc (Nat.le_refl _) _⟩
  case round =>
    obtain ⟨j, hj, rfl, q, hown, hbl⟩ := hrel
    have hsz := hbl.size
    replace hi := hi.below hbl
    replace hi' := hi'.below hbl
    have hq : q ≤ 1048576 := by have := hown.len; have := both_len (xs.take j) ys; have : (xs.take j).length ≤ j := List.length_take_le _ _; omega
    by_cases hlt : j < n
    · obtain ⟨b1, off, x, rfl, hc, hx, hx1, hx2⟩ := hi.get hlt
      have hcall := contains_any _ _ cap' _ x _ hi'
      obtain ⟨t, ht⟩ : ∃ t, t = has ys x := ⟨_, rfl⟩
      rw [← ht] at hcall
      have HC := Lib.hid hcall
      clear hcall
      cases t with
      | true =>
        have HB := Lib.hid (both_yes (show j < xs.length by omega) hx.out ht.symm)
        clear ht hi hl
        go_wp2_with (first
          | (go_at_call 52; refine (HC.out).mono ?_; rintro e w' ⟨rfl, rfl⟩)
          | (at_builtin; refine wpList_app1 _ _ _ _ _ _ hown hbl hsz ⟨by omega, by omega⟩ (by omega) rfl rfl rfl rfl ?_; intro v' w1 hown' hb' hsz'))
        rw [← HB.out] at hown'
        go_roundw
        case rel => exact ⟨j + 1, by omega, by go_num, q + 1, hown', hb'⟩
        case measure => simp [intOf]; omega
      | false =>
        rw [← both_no (show j < xs.length by omega) hx.out ht.symm] at hown
        have HO := Lib.hid hown
        clear ht hi hl hown
        go_wp2_with (first
          | (go_at_call 52; refine (HC.out).mono ?_; rintro e w' ⟨rfl, rfl⟩))
        go_roundw
        case rel => exact ⟨j + 1, by omega, by go_num, q, HO.out, hbl⟩
        case measure => simp [intOf]; omega
    · obtain rfl : j = n := by omega
      obtain ⟨a', cap2, rfl, _⟩ := own_form hown.row
      rw [both_end (by omega)] at hown
      have HO := Lib.hid hown
      clear hown hi hi' hl
      go_wp2
      go_ret
      exact ⟨_, rfl, HO.out.own, hbl⟩

end Go.Proofs.YtpgfkjcekhifiaaDoor

/- Contracts: shared variables. -/
namespace Go.Proofs.YtpgfkjcekhifiaaDoor
open Go.RowKit
set_option linter.unusedVariables false
set_option linter.unusedSimpArgs false
set_option synthInstance.maxSize 2000
set_option synthInstance.maxHeartbeats 400000

/-- SharedVariables. -/
def sharedVars (q : DQ) (a b : Int) : List Int := both (maskVars q a) (maskVars q b)

theorem shared_cnt (q : DQ) (a b : Int) : cnt_I (sharedVars q a b) ≤ 4 := Nat.le_trans (both_len _ _) (maskVars_len q a)

set_option maxHeartbeats 2000000 in
theorem shared_impl (cs : List Value) (x : DQ) (k l : Int) (w : World) (h : rQ.rep w cs x) :
    Calls Tryd.prog 13 #[.agg cs.toArray, .int .i64 k, .int .i64 l] w fun e w' => ∃ u, e = .returned u ∧ Own oI w.heap.size w'.heap.size w' [u] (sharedVars x k l) ∧ Below w.heap.size w w' := by
  obtain ⟨ub, un, uc, rfl⟩ := rQ_form h
  have hb0 : Below w.heap.size w w := Below.refl _ _
  have hml := maskVars_len x k
  go_enter Tryd.func13, Tryd.ntmps13
  obtain ⟨w1, hw1⟩ : ∃ W, W = w.alloc (.cells #[.int .i64 x.1, .slice ub un uc] 24) := ⟨_, rfl⟩
  have z1 : Below w.heap.size w w1 := by rw [hw1]; exact (Below.refl _ _).alloc (Nat.le_refl _) _
  have s1 : w1.heap.size = w.heap.size + 1 := by rw [hw1]; simp
  have hb1 := on hb0 z1
  have b_0 : w1.cell? ⟨w.heap.size, 0, none⟩ = some (.int .i64 x.1) := by rw [hw1]; exact box_cell (Below.refl _ _) rfl
  have b_1 : w1.cell? ⟨w.heap.size, 1, none⟩ = some (.slice ub un uc) := by rw [hw1]; exact box_cell (Below.refl _ _) rfl
  have raw1_b_0 := b_0
  have raw1_b_1 := b_1
  rw [hw1] at raw1_b_0 raw1_b_1
  go_wp2_with fail
  rw [← hw1]
  clear hw1
  clear raw1_b_0 raw1_b_1
  go_region_held3 (fun W => W.cell? ⟨w.heap.size, 0, none⟩ = some (.int .i64 x.1) ∧ W.cell? ⟨w.heap.size, 1, none⟩ = some (.slice ub un uc)) (first | exact ⟨b_0, b_1⟩ | assumption) (first | (go_at_call 12; (with_reducible refine (maskVars_impl _ x k _ (rQ.mono h hb1.drew)).mono ?_); rintro e w2 ⟨u1, rfl, o1, z2⟩; replace z2 : Below w1.heap.size w1 w2 := on (Below.refl _ _).drew z2; have sz2 := z2.size; obtain ⟨vb1, vn1, vc1, rfl⟩ := oI_form1 o1; have hS2 := (⟨(z2.cell (p := ⟨w.heap.size, 0, none⟩) (by simp only []; omega)).trans b_0, (z2.cell (p := ⟨w.heap.size, 1, none⟩) (by simp only []; omega)).trans b_1⟩ : (fun W => W.cell? ⟨w.heap.size, 0, none⟩ = some (.int .i64 x.1) ∧ W.cell? ⟨w.heap.size, 1, none⟩ = some (.slice ub un uc)) w2); have hx2 := on hb1 z2) | (go_at_call 12; (with_reducible refine (maskVars_impl _ x l _ (rQ.mono h hx2)).mono ?_); rintro e w3 ⟨u2, rfl, o2, z3⟩; have sz3 := z3.size; obtain ⟨vb2, vn2, vc2, rfl⟩ := oI_form1 o2; replace o1 := o1.below z3 (by omega); have hS3 := (⟨(z3.cell (p := ⟨w.heap.size, 0, none⟩) (by simp only []; omega)).trans hS2.1, (z3.cell (p := ⟨w.heap.size, 1, none⟩) (by simp only []; omega)).trans hS2.2⟩ : (fun W => W.cell? ⟨w.heap.size, 0, none⟩ = some (.int .i64 x.1) ∧ W.cell? ⟨w.heap.size, 1, none⟩ = some (.slice ub un uc)) w3); have hx3 := on hx2 z3) | (go_at_call 39; (with_reducible refine (both_any _ _ (maskVars x k) (maskVars x l) _ (o1.rd reads_I) (o2.rd reads_I) (by omega)).mono ?_); rintro e w4 ⟨u3, rfl, o3, z4⟩; have sz4 := z4.size; obtain ⟨vb3, vn3, vc3, rfl⟩ := oI_form1 o3; replace o1 := o1.below z4 (by omega); replace o2 := o2.below z4 (by omega); have hS4 := (⟨(z4.cell (p := ⟨w.heap.size, 0, none⟩) (by simp only []; omega)).trans hS3.1, (z4.cell (p := ⟨w.heap.size, 1, none⟩) (by simp only []; omega)).trans hS3.2⟩ : (fun W => W.cell? ⟨w.heap.size, 0, none⟩ = some (.int .i64 x.1) ∧ W.cell? ⟨w.heap.size, 1, none⟩ = some (.slice ub un uc)) w4); have hx4 := on hx3 z4))
  replace z2 : Below w1.heap.size w1 w2 := z2
  replace z3 : Below w2.heap.size w2 w3 := z3
  replace z4 : Below w3.heap.size w3 w4 := z4
  clear hS2 hx2 hS3 hx3 hS4 hx4
  have s5 := z2.size
  have hb5 := on hb1 z2
  replace b_0 := (z2.cell (p := ⟨w.heap.size, 0, none⟩) (by simp only []; omega)).trans b_0
  replace b_1 := (z2.cell (p := ⟨w.heap.size, 1, none⟩) (by simp only []; omega)).trans b_1
  have s6 := z3.size
  have hb6 := on hb5 z3
  replace b_0 := (z3.cell (p := ⟨w.heap.size, 0, none⟩) (by simp only []; omega)).trans b_0
  replace b_1 := (z3.cell (p := ⟨w.heap.size, 1, none⟩) (by simp only []; omega)).trans b_1
  have s7 := z4.size
  have hb7 := on hb6 z4
  replace b_0 := (z4.cell (p := ⟨w.heap.size, 0, none⟩) (by simp only []; omega)).trans b_0
  replace b_1 := (z4.cell (p := ⟨w.heap.size, 1, none⟩) (by simp only []; omega)).trans b_1
  go_wp2_with fail
  go_ret
  exact ⟨_, rfl, o3.mono (by omega) (by omega), hb7⟩

set_option maxHeartbeats 2000000 in
theorem shared_spec (cs : List Value) (x : DQ) (k l : Int) (w : World) (h : rQ.rep w cs x) :
    Calls Tryd.prog 16 #[.agg cs.toArray, .int .i64 k, .int .i64 l] w fun e w' => ∃ u, e = .returned u ∧ Own oI w.heap.size w'.heap.size w' [u] (sharedVars x k l) ∧ Below w.heap.size w w' := by
  obtain ⟨ub, un, uc, rfl⟩ := rQ_form h
  have hb0 : Below w.heap.size w w := Below.refl _ _
  have hml := maskVars_len x k
  go_enter Tryd.func16, Tryd.ntmps16
  obtain ⟨w1, hw1⟩ : ∃ W, W = w.alloc (.cells #[.int .i64 x.1, .slice ub un uc] 24) := ⟨_, rfl⟩
  have z1 : Below w.heap.size w w1 := by rw [hw1]; exact (Below.refl _ _).alloc (Nat.le_refl _) _
  have s1 : w1.heap.size = w.heap.size + 1 := by rw [hw1]; simp
  have hb1 := on hb0 z1
  have b_0 : w1.cell? ⟨w.heap.size, 0, none⟩ = some (.int .i64 x.1) := by rw [hw1]; exact box_cell (Below.refl _ _) rfl
  have b_1 : w1.cell? ⟨w.heap.size, 1, none⟩ = some (.slice ub un uc) := by rw [hw1]; exact box_cell (Below.refl _ _) rfl
  have raw1_b_0 := b_0
  have raw1_b_1 := b_1
  rw [hw1] at raw1_b_0 raw1_b_1
  obtain ⟨w2, hw2⟩ : ∃ W, W = w1.alloc (.cells #[] 3) := ⟨_, rfl⟩
  have z2 : Below w1.heap.size w1 w2 := by rw [hw2]; exact (Below.refl _ _).alloc (Nat.le_refl _) _
  have s2 : w2.heap.size = w1.heap.size + 1 := by rw [hw2]; simp
  have hb2 := on hb1 z2
  replace b_0 := (z2.cell (p := ⟨w.heap.size, 0, none⟩) (by simp only []; omega)).trans b_0
  replace b_1 := (z2.cell (p := ⟨w.heap.size, 1, none⟩) (by simp only []; omega)).trans b_1
  have ho : ∀ S, Acc 3 O.int w1.heap.size S w2.heap.size w2 (.slice (some ⟨w.heap.size + 1, 0, none⟩) 0 0) [] := fun S => by rw [hw2]; exact Acc.empty (by omega) (by simp; omega)
  obtain ⟨xs, hxs⟩ : ∃ xs, xs = maskVars x k := ⟨_, rfl⟩
  obtain ⟨ys, hys⟩ : ∃ ys, ys = maskVars x l := ⟨_, rfl⟩
  have HR := Lib.hid (show both xs ys = sharedVars x k l by rw [hxs, hys]; rfl)
  have C1 := maskVars_spec [.int .i64 x.1, .slice ub un uc] x k
  have C2 := maskVars_spec [.int .i64 x.1, .slice ub un uc] x l
  rw [← hxs] at C1 hml
  rw [← hys] at C2
  clear hxs hys
  go_wp2_with fail
  rw [← hw1]
  rw [← hw2]
  clear hw2 hw1
  clear raw1_b_0 raw1_b_1
  refine (C1 _ (rQ.mono h hb2)).mono ?_
  rintro e w11 ⟨u1, rfl, o1, z11⟩
  obtain ⟨a1, n1, c1, rfl⟩ := oI_form1 o1
  have s3 := z11.size
  have hb3 := on hb2 z11
  replace b_0 := (z11.cell (p := ⟨w.heap.size, 0, none⟩) (by simp only []; omega)).trans b_0
  replace b_1 := (z11.cell (p := ⟨w.heap.size, 1, none⟩) (by simp only []; omega)).trans b_1
  replace ho := fun S => (ho S).below z11 (by omega)
  go_wp2_with fail
  refine (C2 _ (rQ.mono h hb3)).mono ?_
  rintro e w12 ⟨u2, rfl, o2, z12⟩
  obtain ⟨a2, n2, c2, rfl⟩ := oI_form1 o2
  have s4 := z12.size
  have hb4 := on hb3 z12
  replace b_0 := (z12.cell (p := ⟨w.heap.size, 0, none⟩) (by simp only []; omega)).trans b_0
  replace b_1 := (z12.cell (p := ⟨w.heap.size, 1, none⟩) (by simp only []; omega)).trans b_1
  replace ho := fun S => (ho S).below z12 (by omega)
  replace o1 := o1.below z12 (by omega)
  clear C1 C2
  have hl := (rI_ints (o1.rd reads_I)).len
  have hn := (rI_ints (o1.rd reads_I)).small
  go_wp2_with fail
  go_loopw [7, 10] (fun v i wr => ∃ (j : Nat), j ≤ n1 ∧ i = .int .i64 j ∧ Acc 3 O.int w1.heap.size w12.heap.size wr.heap.size wr v (both (xs.take j) ys) ∧ Turn w1.heap.size (w1.heap.size + 1) w12 wr) (fun _ i _ => n1 - (intOf i).toNat)
  case atStart => exact ⟨0, Nat.zero_le _, rfl, by rw [List.take_zero]; exact (ho _).wide (Nat.le_refl _) (by omega), turn_refl _ _ _⟩
  case round =>
    obtain ⟨j, hj, rfl, hacc, hdr⟩ := hrel
    have hlc := hdr
    replace o1 := o1.turn hdr (by omega)
    replace o2 := o2.turn hdr (by omega)
    have hi := rI_ints (o1.rd reads_I)
    have hi' := rI_ints (o2.rd reads_I)
    have s5 := hdr.size
    have hb5 := hb4.trans ((hdr.below (by omega)).mono (by omega))
    replace b_0 := (hdr.cell (p := ⟨w.heap.size, 0, none⟩) (by simp only []; omega) (by simp only []; omega)).trans b_0
    replace b_1 := (hdr.cell (p := ⟨w.heap.size, 1, none⟩) (by simp only []; omega) (by simp only []; omega)).trans b_1
    have hbl : (both (xs.take j) ys).length ≤ 4 := by have h1 := both_len (xs.take j) ys; have h2 : (xs.take j).length ≤ j := List.length_take_le _ _; omega
    by_cases hlt : j < n1
    · obtain ⟨b1, off, x, rfl, hc, hx, hx1, hx2⟩ := hi.get hlt
      have hcall := l7Has_any _ _ c2 _ x wr hi'
      obtain ⟨t, ht⟩ : ∃ t, t = has ys x := ⟨_, rfl⟩
      rw [← ht] at hcall
      have HC := Lib.hid hcall
      clear hcall
      cases t with
      | true =>
        have HB := Lib.hid (both_yes (show j < xs.length by omega) hx.out ht.symm)
        clear ht hi hl o1 o2 ho
        go_wp2_with (first
          | (go_at_call 43; refine (HC.out).mono ?_; rintro e w' ⟨rfl, rfl⟩)
          | (at_builtin; refine wpList_accI _ _ _ _ _ hacc hlc rfl (by omega) (Nat.le_refl _) ⟨by omega, by omega⟩ (by omega) rfl rfl rfl rfl rfl ?_; intro v' w1 hacc' ht' hsz'))
        rw [← HB.out] at hacc'
        go_roundw
        case rel => exact ⟨j + 1, by omega, by go_num, hacc', ht'⟩
        case measure => simp [intOf]; omega
      | false =>
        rw [← both_no (show j < xs.length by omega) hx.out ht.symm] at hacc
        have HO := Lib.hid hacc
        clear ht hi hl hacc o1 o2 ho
        go_wp2_with (go_at_call 43; refine (HC.out).mono ?_; rintro e w' ⟨rfl, rfl⟩)
        go_roundw
        case rel => exact ⟨j + 1, by omega, by go_num, HO.out, hlc⟩
        case measure => simp [intOf]; omega
    · obtain rfl : j = n1 := by omega
      obtain ⟨a', n', cap2, rfl⟩ := hacc.form3
      rw [both_end (by omega), HR.out] at hacc
      have HO := Lib.hid (hacc.own (B := w.heap.size) (by omega) (by omega) (Nat.le_refl _))
      clear hacc hi hi' hl o1 o2 ho
      go_wp2_with fail
      go_ret
      exact ⟨_, rfl, HO.out, hb5⟩

end Go.Proofs.YtpgfkjcekhifiaaDoor
