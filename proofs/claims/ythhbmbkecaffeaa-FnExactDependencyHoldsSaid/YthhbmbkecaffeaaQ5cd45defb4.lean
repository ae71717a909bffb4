/- Texts joined for one claim: ValidQS, Look, MaskC, Look2, MaskV, Look3, MaskI, LookA, Sel, Dep. -/
import Derived.Test.YthhbmbkecaffeaaQ61ce3e355a
import Derived.Deep.RegionHeld3

/- Contracts: whether a query is valid: the reference's. -/
namespace Go.Proofs.Ythhbmbkecaffeaa
open Go.RowKit
set_option linter.unusedVariables false
set_option linter.unusedSimpArgs false
set_option synthInstance.maxSize 2000
set_option synthInstance.maxHeartbeats 400000

set_option maxHeartbeats 2000000 in
theorem validQ_spec (cs : List Value) (x : DQ) (w : World) (h : rQ.rep w cs x) :
    Calls Try.prog 51 #[.agg cs.toArray] w fun e w' => e = .returned (.bool (validQ x)) ∧ Below w.heap.size w w' := by
  obtain ⟨ub, un, uc, rfl, hi, g1⟩ := rQ_open h
  clear h
  obtain ⟨i, xs⟩ := x
  simp only at hi g1
  obtain ⟨hi1, hi2⟩ := hi
  have t0 := rS_sl g1
  have hl := t0.len
  have hn := t0.small
  clear t0
  have hb0 : Below w.heap.size w w := Below.refl _ _
  by_cases h1 : betw i 1 4 = true
  case neg =>
    replace h1 : betw i 1 4 = false := by simpa using h1
    have HE := Lib.hid (validQ_no1 (q := (i, xs)) h1)
    go_enter Try.func51, Try.ntmps51
    obtain ⟨w1, hw1⟩ : ∃ W, W = w.alloc (.cells #[.int .i64 i, .slice ub un uc] 29) := ⟨_, rfl⟩
    have z1 : Below w.heap.size w w1 := by rw [hw1]; exact (Below.refl _ _).alloc (Nat.le_refl _) _
    have s1 : w1.heap.size = w.heap.size + 1 := by rw [hw1]; simp
    have hb1 := on hb0 z1
    have b_0 : w1.cell? ⟨w.heap.size, 0, none⟩ = some (.int .i64 i) := by rw [hw1]; exact box_cell (Below.refl _ _) rfl
    have b_1 : w1.cell? ⟨w.heap.size, 1, none⟩ = some (.slice ub un uc) := by rw [hw1]; exact box_cell (Below.refl _ _) rfl
    have raw1_b_0 := b_0
    have raw1_b_1 := b_1
    rw [hw1] at raw1_b_0 raw1_b_1
    go_wp2_with fail
    rw [← hw1]
    clear hw1
    clear raw1_b_0 raw1_b_1
    refine (l1In_any _ _ _ _).mono ?_
    rintro e w' ⟨rfl, rfl⟩
    clear hl
    go_wp2_with fail
    go_ret
    exact ⟨ret_bool HE.out.symm, hb1⟩
  by_cases h2 : betw un 1 4 = true
  case neg =>
    replace h2 : betw un 1 4 = false := by simpa using h2
    have HE := Lib.hid (validQ_no2 (q := (i, xs)) (by simp only []; rw [hl]; exact h2))
    go_enter Try.func51, Try.ntmps51
    obtain ⟨w2, hw2⟩ : ∃ W, W = w.alloc (.cells #[.int .i64 i, .slice ub un uc] 29) := ⟨_, rfl⟩
    have z2 : Below w.heap.size w w2 := by rw [hw2]; exact (Below.refl _ _).alloc (Nat.le_refl _) _
    have s2 : w2.heap.size = w.heap.size + 1 := by rw [hw2]; simp
    have hb2 := on hb0 z2
    have b_0 : w2.cell? ⟨w.heap.size, 0, none⟩ = some (.int .i64 i) := by rw [hw2]; exact box_cell (Below.refl _ _) rfl
    have b_1 : w2.cell? ⟨w.heap.size, 1, none⟩ = some (.slice ub un uc) := by rw [hw2]; exact box_cell (Below.refl _ _) rfl
    have raw2_b_0 := b_0
    have raw2_b_1 := b_1
    rw [hw2] at raw2_b_0 raw2_b_1
    go_wp2_with fail
    rw [← hw2]
    clear hw2
    clear raw2_b_0 raw2_b_1
    refine (l1In_any _ _ _ _).mono ?_
    rintro e w' ⟨rfl, rfl⟩
    go_wp2_with fail
    refine (l1In_any _ _ _ _).mono ?_
    rintro e w' ⟨rfl, rfl⟩
    clear hl
    go_wp2_with fail
    go_ret
    exact ⟨ret_bool HE.out.symm, hb2⟩
  have h3 := h1
  simp only [betw, Bool.and_eq_true, decide_eq_true_eq] at h3
  obtain ⟨n, rfl⟩ := Int.eq_ofNat_of_zero_le (show 0 ≤ i by omega)
  have hn1 : 1 ≤ n ∧ n ≤ 4 := by omega
  obtain ⟨hn1, hn4⟩ := hn1
  clear h3 hi1 hi2
  have HV := Lib.hid (validQ_go (xs := xs) h1 (by rw [hl]; exact h2))
  have H2 := Lib.hid h2
  go_enter Try.func51, Try.ntmps51
  obtain ⟨w3, hw3⟩ : ∃ W, W = w.alloc (.cells #[.int .i64 n, .slice ub un uc] 29) := ⟨_, rfl⟩
  have z3 : Below w.heap.size w w3 := by rw [hw3]; exact (Below.refl _ _).alloc (Nat.le_refl _) _
  have s3 : w3.heap.size = w.heap.size + 1 := by rw [hw3]; simp
  have hb3 := on hb0 z3
  have b_0 : w3.cell? ⟨w.heap.size, 0, none⟩ = some (.int .i64 n) := by rw [hw3]; exact box_cell (Below.refl _ _) rfl
  have b_1 : w3.cell? ⟨w.heap.size, 1, none⟩ = some (.slice ub un uc) := by rw [hw3]; exact box_cell (Below.refl _ _) rfl
  have raw3_b_0 := b_0
  have raw3_b_1 := b_1
  rw [hw3] at raw3_b_0 raw3_b_1
  go_wp2_with fail
  rw [← hw3]
  clear hw3
  clear raw3_b_0 raw3_b_1
  refine (l1In_any _ _ _ _).mono ?_
  rintro e w' ⟨rfl, rfl⟩
  go_wp2_with fail
  refine (l1In_any _ _ _ _).mono ?_
  rintro e w' ⟨rfl, rfl⟩
  go_wp2_with fail
  clear h1 h2
  go_loopw [3, 4] (fun s k wr => ∃ j m : Nat, j ≤ un ∧ m < 2 ^ n ∧ k = .int .i64 j ∧ s = .int .i64 m ∧ Hid (validQ ((n : Int), xs) = validFrom n m (xs.drop j)) ∧ Below w3.heap.size w3 wr) (fun _ k _ => un - (intOf k).toNat)
  case atStart => exact ⟨0, 0, Nat.zero_le _, Nat.two_pow_pos _, rfl, rfl, HV.out, Below.refl _ _⟩
  case round =>
    obtain ⟨j, m, hj, hm, rfl, rfl, hE, hdr⟩ := hrel
    obtain ⟨wo, rfl⟩ : ∃ W, W = wr := ⟨_, rfl⟩
    have hlc := hdr
    have s4 := hdr.size
    have hb4 := on hb3 hdr
    replace b_0 := (hdr.cell (p := ⟨w.heap.size, 0, none⟩) (by simp only []; omega)).trans b_0
    replace b_1 := (hdr.cell (p := ⟨w.heap.size, 1, none⟩) (by simp only []; omega)).trans b_1
    have t0 := rS_sl g1
    have hm16 := pow_le16 hn4
    by_cases hlt : j < un
    · obtain ⟨b1, o1, cs, x, rfl, hx, hr, hc⟩ := t0.at hlt
      obtain ⟨s, vs⟩ := x
      obtain ⟨vb, vn, vc, rfl, hs, g2⟩ := rA_open hr
      simp only at hs g2
      have i0 := rI_ints g2
      have hvl := i0.len
      have hvs := i0.small
      obtain ⟨hvc, hvc2⟩ := rS_cap g2
      have e_lt : b1 < w.heap.size := cell_lt (hc 0 _ rfl)
      have e_0 : wo.cell? ⟨b1, o1 + j * 2, none⟩ = some (.string s) := (hb4.cell (p := ⟨b1, o1 + j * 2, none⟩) e_lt).trans (by have h9 := hc 0 _ rfl; rw [← Nat.add_assoc] at h9; exact h9)
      have e_1 : wo.cell? ⟨b1, o1 + j * 2 + 1, none⟩ = some (.slice vb vn vc) := (hb4.cell (p := ⟨b1, o1 + j * 2 + 1, none⟩) e_lt).trans (by have h9 := hc 1 _ rfl; rw [← Nat.add_assoc] at h9; exact h9)
      have HA := Lib.hid (hE.out.trans (validFrom_at hx.out))
      clear hc t0 hr hl hx hE i0 HV
      obtain ⟨w5, hw5⟩ : ∃ W, W = wo.alloc (.cells #[.string s, .slice vb vn vc] 80) := ⟨_, rfl⟩
      have z5 : Below wo.heap.size wo w5 := by rw [hw5]; exact (Below.refl _ _).alloc (Nat.le_refl _) _
      have s5 : w5.heap.size = wo.heap.size + 1 := by rw [hw5]; simp
      have hb5 := on hb4 z5
      have old5_b_0 := b_0
      have old5_b_1 := b_1
      have old5_e_0 := e_0
      have old5_e_1 := e_1
      replace b_0 := (z5.cell (p := ⟨w.heap.size, 0, none⟩) (by simp only []; omega)).trans b_0
      replace b_1 := (z5.cell (p := ⟨w.heap.size, 1, none⟩) (by simp only []; omega)).trans b_1
      replace hlc := on hlc z5
      replace e_0 := (z5.cell (p := ⟨b1, o1 + j * 2, none⟩) (by simp only []; omega)).trans e_0
      replace e_1 := (z5.cell (p := ⟨b1, o1 + j * 2 + 1, none⟩) (by simp only []; omega)).trans e_1
      have p_0 : w5.cell? ⟨wo.heap.size, 0, none⟩ = some (.string s) := by rw [hw5]; exact box_cell (Below.refl _ _) rfl
      have p_1 : w5.cell? ⟨wo.heap.size, 1, none⟩ = some (.slice vb vn vc) := by rw [hw5]; exact box_cell (Below.refl _ _) rfl
      have raw5_b_0 := b_0
      have raw5_b_1 := b_1
      have raw5_e_0 := e_0
      have raw5_e_1 := e_1
      have raw5_p_0 := p_0
      have raw5_p_1 := p_1
      rw [hw5] at raw5_b_0 raw5_b_1 raw5_e_0 raw5_e_1 raw5_p_0 raw5_p_1
      by_cases h1 : nameB s = true
      case neg =>
        replace h1 : nameB s = false := by simpa using h1
        have HE := Lib.hid (show validQ ((n : Int), xs) = false by rw [HA.out]; simp [h1])
        go_wp2_with fail
        rw [← hw5]
        clear hw5
        clear old5_b_0 old5_b_1 old5_e_0 old5_e_1 raw5_b_0 raw5_b_1 raw5_e_0 raw5_e_1 raw5_p_0 raw5_p_1
        refine (l4Name_any _ _ hs).mono ?_
        rintro e w' ⟨rfl, rfl⟩
        go_wp2_with fail
        go_ret
        exact ⟨ret_bool HE.out.symm, hb5⟩
      by_cases h2 : betw vn 1 3 = true
      case neg =>
        replace h2 : betw vn 1 3 = false := by simpa using h2
        have HE := Lib.hid (show validQ ((n : Int), xs) = false by rw [HA.out]; simp [hvl, h2])
        go_wp2_with fail
        rw [← hw5]
        clear hw5
        clear old5_b_0 old5_b_1 old5_e_0 old5_e_1 raw5_b_0 raw5_b_1 raw5_e_0 raw5_e_1 raw5_p_0 raw5_p_1
        refine (l4Name_any _ _ hs).mono ?_
        rintro e w' ⟨rfl, rfl⟩
        go_wp2_with fail
        refine (l1In_any _ _ _ _).mono ?_
        rintro e w' ⟨rfl, rfl⟩
        go_wp2_with fail
        go_ret
        exact ⟨ret_bool HE.out.symm, hb5⟩
      have HA2 := Lib.hid (show validQ ((n : Int), xs) = (varsFrom n (vs.take 0) (vs.drop 0) && validFrom n (vbits m (vs.drop 0)) (xs.drop (j + 1))) by rw [HA.out]; simp [h1, hvl, h2])
      clear HA
      go_wp2_with fail
      rw [← hw5]
      clear hw5
      clear old5_b_0 old5_b_1 old5_e_0 old5_e_1 raw5_b_0 raw5_b_1 raw5_e_0 raw5_e_1 raw5_p_0 raw5_p_1
      refine (l4Name_any _ _ hs).mono ?_
      rintro e w' ⟨rfl, rfl⟩
      go_wp2_with fail
      refine (l1In_any _ _ _ _).mono ?_
      rintro e w' ⟨rfl, rfl⟩
      have h3 := h2
      simp only [betw, Bool.and_eq_true, decide_eq_true_eq] at h3
      go_wp2_with fail
      clear h1 h2
      go_loopw [3, 6] (fun s k wr => ∃ i m : Nat, i ≤ vn ∧ m < 2 ^ n ∧ k = .int .i64 i ∧ s = .int .i64 m ∧ Hid (validQ ((n : Int), xs) = (varsFrom n (vs.take i) (vs.drop i) && validFrom n (vbits m (vs.drop i)) (xs.drop (j + 1)))) ∧ Drew w5 wr) (fun _ k _ => vn - (intOf k).toNat)
      case atStart => exact ⟨0, m, Nat.zero_le _, hm, rfl, rfl, HA2.out, Drew.refl _⟩
      case round =>
        obtain ⟨i, m, hi, hm, rfl, rfl, hE, hdr⟩ := hrel
        have hlo := hdr
        replace hdr : Below w5.heap.size w5 wr := hdr.below _
        have s6 := hdr.size
        have hb6 := on hb5 hdr
        replace b_0 := (hdr.cell (p := ⟨w.heap.size, 0, none⟩) (by simp only []; omega)).trans b_0
        replace b_1 := (hdr.cell (p := ⟨w.heap.size, 1, none⟩) (by simp only []; omega)).trans b_1
        replace hlc := on hlc hdr
        replace e_0 := (hdr.cell (p := ⟨b1, o1 + j * 2, none⟩) (by simp only []; omega)).trans e_0
        replace e_1 := (hdr.cell (p := ⟨b1, o1 + j * 2 + 1, none⟩) (by simp only []; omega)).trans e_1
        replace p_0 := (hdr.cell (p := ⟨wo.heap.size, 0, none⟩) (by simp only []; omega)).trans p_0
        replace p_1 := (hdr.cell (p := ⟨wo.heap.size, 1, none⟩) (by simp only []; omega)).trans p_1
        have hm16 := pow_le16 hn4
        have i0 := rI_ints g2
        by_cases hlv : i < vn
        · obtain ⟨b2, o2, v, rfl, hc, hv, hv1, hv2⟩ := i0.get hlv
          have v0_lt : b2 < w.heap.size := cell_lt hc
          have v0 : wr.cell? ⟨b2, o2 + i, none⟩ = some (.int .i64 v) := (hb6.cell (p := ⟨b2, o2 + i, none⟩) v0_lt).trans hc
          clear hc
          by_cases h4 : betw v 0 ((n : Int) - 1) = true
          case neg =>
            replace h4 : betw v 0 ((n : Int) - 1) = false := by simpa using h4
            have HE := Lib.hid (show validQ ((n : Int), xs) = false by rw [hE.out, vars_no (by omega) hv.out (by simp [h4])]; rfl)
            clear i0 hvl
            go_wp2_with fail
            go_quiet ((go_at_call 66; exact quiet_same (l1In_any _ _ _ _)))
            go_wp2_with fail
            go_ret
            exact ⟨ret_bool HE.out.symm, onD hb6 ⟨_, rfl⟩⟩
          have hcall := fun q => l7Has_any (some ⟨b2, o2, none⟩) i vc (vs.take i) v (wr.drewN q) (((i0.takeTo (by omega)).below hb6).drewN q)
          obtain ⟨t, ht⟩ : ∃ t, t = has (vs.take i) v := ⟨_, rfl⟩
          rw [← ht] at hcall
          have HC := Lib.hid hcall
          clear hcall
          have h5 := h4
          simp only [betw, Bool.and_eq_true, decide_eq_true_eq] at h5
          obtain ⟨v, rfl⟩ := Int.eq_ofNat_of_zero_le h5.1
          have hvn : v < n := by omega
          clear h5
          cases t with
          | true =>
            have HE := Lib.hid (show validQ ((n : Int), xs) = false by rw [hE.out, vars_no (by omega) hv.out (by rw [← ht]; simp)]; rfl)
            clear i0 hvl ht
            go_wp2_with fail
            go_quiet ((first | (go_at_call 66; exact quiet_same (l1In_any _ _ _ _)) | (go_at_call 81; exact quiet_same (HC.out _))))
            go_wp2_with fail
            go_ret
            exact ⟨ret_bool HE.out.symm, onD hb6 ⟨_, rfl⟩⟩
          | false =>
            have HE := Lib.hid (hE.out.trans (show _ = (varsFrom n (vs.take (i + 1)) (vs.drop (i + 1)) && validFrom n (vbits (m ||| 2 ^ v) (vs.drop (i + 1))) (xs.drop (j + 1))) by rw [vars_yes (by omega) hv.out h4 ht.symm, vbits_at (by omega) hv.out]))
            have hmo := or_lt hm hvn
            clear i0 hvl ht
            go_wp2_with fail
            go_quiet ((first | (go_at_call 66; exact quiet_same (l1In_any _ _ _ _)) | (go_at_call 81; exact quiet_same (HC.out _))))
            go_wp2_with fail
            go_roundw
            case rel => exact ⟨i + 1, m ||| 2 ^ v, by omega, hmo, by go_num, by show Value.int _ _ = _; first | (rw [or_pow (by omega) (by omega)]) | (rw [← or_pow (m := m) (v := v) (by omega) (by omega)]; rfl), HE.out, hlo.step _⟩
            case measure => simp [intOf]; omega
        · have HE := Lib.hid (show validQ ((n : Int), xs) = validFrom n m (xs.drop (j + 1)) by rw [hE.out, vars_end (by omega), vbits_end (by omega)]; rfl)
          clear i0 hvl
          go_wp2_with fail
          go_roundw
          case rel => exact ⟨j + 1, m, by omega, hm, by go_num, rfl, HE.out, hlc⟩
          case measure => simp [intOf]; omega
    · have HE := Lib.hid (hE.out.trans (validFrom_end (by omega)))
      clear t0 hl hE HV
      go_wp2_with fail
      go_ret
      exact ⟨ret_bool (by rw [HE.out]; exact full_eq (by omega)), hb4⟩

end Go.Proofs.Ythhbmbkecaffeaa

/- Contracts: tables looked up. -/
namespace Go.Proofs.Ythhbmbkecaffeaa
open Go.RowKit Go.Sort
set_option linter.unusedVariables false
set_option linter.unusedSimpArgs false
set_option synthInstance.maxSize 2000
set_option synthInstance.maxHeartbeats 400000

/-- The place of the first table of a name, from place j on; -1 if there is none. -/
def idxFrom (name : ByteArray) (j : Nat) : List DT → Int
  | [] => -1
  | t :: r => if t.1 = name then (j : Int) else idxFrom name (j + 1) r
/-- The table of a name. -/
def look (db : DDb) (name : ByteArray) : Option DT := if validDb db then db.find? (fun t => decide (t.1 = name)) else none
theorem idxFrom_yes {name : ByteArray} {j : Nat} {xs : List DT} {t : DT} (h : xs[j]? = some t) (hn : t.1 = name) : idxFrom name j (xs.drop j) = (j : Int) := by
  rw [drop_at h, idxFrom, if_pos hn]
theorem idxFrom_no {name : ByteArray} {j : Nat} {xs : List DT} {t : DT} (h : xs[j]? = some t) (hn : t.1 ≠ name) : idxFrom name j (xs.drop j) = idxFrom name (j + 1) (xs.drop (j + 1)) := by
  rw [drop_at h, idxFrom, if_neg hn]
theorem idxFrom_end {name : ByteArray} {j : Nat} {xs : List DT} (h : xs.length ≤ j) : idxFrom name j (xs.drop j) = -1 := by
  rw [List.drop_eq_nil_of_le h]; rfl
/-- What the place says. -/
theorem idx_find {name : ByteArray} : ∀ {xs : List DT} {j : Nat}, (idxFrom name j xs = -1 ∧ xs.find? (fun t => decide (t.1 = name)) = none) ∨ ∃ k t, idxFrom name j xs = ((j + k : Nat) : Int) ∧ xs[k]? = some t ∧ xs.find? (fun t => decide (t.1 = name)) = some t
  | [], j => .inl ⟨rfl, rfl⟩
  | t :: r, j => by
    by_cases h : t.1 = name
    · exact .inr ⟨0, t, by simp [idxFrom, h], rfl, by simp [h]⟩
    · rcases @idx_find name r (j + 1) with ⟨h1, h2⟩ | ⟨k, u, h1, h2, h3⟩
      · exact .inl ⟨by rw [idxFrom, if_neg h]; exact h1, by simp [h, h2]⟩
      · exact .inr ⟨k + 1, u, by rw [idxFrom, if_neg h, h1]; omega, by simpa using h2, by simp [h, h3]⟩
theorem dbFrom_mem : ∀ {xs : List DT} {p : Option ByteArray}, dbFrom p xs = true → ∀ t ∈ xs, validT t = true
  | [], _, _, t, ht => by cases ht
  | x :: r, p, h, t, ht => by
    simp only [dbFrom, Bool.and_eq_true] at h
    rcases List.mem_cons.1 ht with rfl | ht
    · exact h.1
    · exact dbFrom_mem h.2.2 t ht
theorem rowsB_mem {n : Int} {rows : List (List Int)} (h : rowsB n rows = true) : ∀ r ∈ rows, (r.length : Int) = n ∧ ∀ v ∈ r, 0 ≤ v ∧ v ≤ 9 := by
  intro r hr
  have h1 := (List.all_eq_true.1 h) r hr
  simp only [rowB, Bool.and_eq_true, decide_eq_true_eq, List.all_eq_true, betw] at h1
  exact ⟨h1.2, fun v hv => h1.1 v hv⟩
/-- What a valid table is known to hold. -/
structure TOk (t : DT) : Prop where
  name : nameB t.1 = true
  ar : 1 ≤ t.2.1 ∧ t.2.1 ≤ 3
  len : t.2.2.length ≤ 8
  row : ∀ r ∈ t.2.2, (r.length : Int) = t.2.1 ∧ ∀ v ∈ r, 0 ≤ v ∧ v ≤ 9
  asc : ascB t.2.2 = true
theorem TOk.of {t : DT} (h : validT t = true) : TOk t := by
  simp only [validT, Bool.and_eq_true, decide_eq_true_eq, betw] at h
  exact ⟨h.1, h.2.1, h.2.2.1, rowsB_mem h.2.2.2.1, h.2.2.2.2⟩
theorem sumBy_bound {α : Type} {f : α → Nat} {B : Nat} : ∀ {xs : List α}, (∀ x ∈ xs, f x ≤ B) → sumBy f xs ≤ xs.length * B
  | [], _ => by simp [sumBy]
  | x :: t, h => by
    have h1 := h x (by simp)
    have h2 := sumBy_bound (fun y hy => h y (List.mem_cons_of_mem x hy))
    simp only [sumBy, List.map_cons, List.sum_cons, List.length_cons, Nat.add_mul, Nat.one_mul] at h2 ⊢
    omega
theorem TOk.bulk {t : DT} (h : TOk t) : bulk_T t ≤ 100 := by
  have h1 : t.1.size = 1 := by have := h.name; simp only [nameB, Bool.and_eq_true, decide_eq_true_eq] at this; exact this.1
  have h2 := h.ar
  have h3 := h.len
  have h4 : sumBy bulk_I t.2.2 ≤ t.2.2.length * 3 := sumBy_bound (fun r hr => by have := (h.row r hr).1; unfold bulk_I; omega)
  have h5 := Nat.mul_le_mul_right 3 h3
  unfold bulk_T bulk_II
  omega
theorem look_ok {db : DDb} {name : ByteArray} {t : DT} (h : look db name = some t) : TOk t := by
  unfold look at h
  split at h
  · rename_i hv
    simp only [validDb, Bool.and_eq_true] at hv
    exact TOk.of (dbFrom_mem hv.1 t (List.mem_of_find?_eq_some h))
  · cases h
theorem look_name {db : DDb} {name : ByteArray} {t : DT} (h : look db name = some t) : t.1 = name := by
  unfold look at h
  split at h
  · have := List.find?_some h; simpa using this
  · cases h

set_option maxHeartbeats 400000 in
theorem lookFn_any (cs : List Value) (t : DT) (name : ByteArray) (p : Addr) (w : World) (h : rT.rep w cs t) (hp : w.cell? p = some (.string name)) (hps : p.spot = none) :
    Calls Try.prog 110 #[.agg cs.toArray, .pointer (some p)] w fun e w' => e = .returned (.bool (decide (t.1 = name))) ∧ Below w.heap.size w w' := by
  obtain ⟨ub, un, uc, rfl, hs, hi, g1⟩ := rT_open h
  obtain ⟨pb, po, ps⟩ := p
  simp only at hps
  subst hps
  have hlt : pb < w.heap.size := cell_lt hp
  clear h g1
  have hb0 : Below w.heap.size w w := Below.refl _ _
  have c0 : w.cell? ⟨pb, po, none⟩ = some (.string name) := hp
  clear hp
  go_enter Try.func110, Try.ntmps110
  obtain ⟨w1, hw1⟩ : ∃ W, W = w.alloc (.cells #[.string t.1, .int .i64 t.2.1, .slice ub un uc] 91) := ⟨_, rfl⟩
  have z1 : Below w.heap.size w w1 := by rw [hw1]; exact (Below.refl _ _).alloc (Nat.le_refl _) _
  have s1 : w1.heap.size = w.heap.size + 1 := by rw [hw1]; simp
  have hb1 := on hb0 z1
  have old1_c0 := c0
  replace c0 := (z1.cell (p := ⟨pb, po, none⟩) (by simp only []; omega)).trans c0
  have b_0 : w1.cell? ⟨w.heap.size, 0, none⟩ = some (.string t.1) := by rw [hw1]; exact box_cell (Below.refl _ _) rfl
  have b_1 : w1.cell? ⟨w.heap.size, 1, none⟩ = some (.int .i64 t.2.1) := by rw [hw1]; exact box_cell (Below.refl _ _) rfl
  have b_2 : w1.cell? ⟨w.heap.size, 2, none⟩ = some (.slice ub un uc) := by rw [hw1]; exact box_cell (Below.refl _ _) rfl
  have raw1_c0 := c0
  have raw1_b_0 := b_0
  have raw1_b_1 := b_1
  have raw1_b_2 := b_2
  rw [hw1] at raw1_c0 raw1_b_0 raw1_b_1 raw1_b_2
  by_cases e : t.1 = name
  · have HE := Lib.hid (show (t.1.toList == name.toList) = true by rw [e]; simp)
    have HD := Lib.hid (decide_eq_true e)
    clear e
    have hq := HE.out
    go_wp2_with fail
    go_ret
    exact ⟨ret_bool HD.out.symm, by first | exact hb1 | (rw [hw1] at hb1; exact hb1)⟩
  · have hq := bytes_ne e
    have HD := Lib.hid (decide_eq_false e)
    clear e
    go_wp2_with fail
    go_ret
    exact ⟨ret_bool HD.out.symm, by first | exact hb1 | (rw [hw1] at hb1; exact hb1)⟩

end Go.Proofs.Ythhbmbkecaffeaa

/- Contracts: masks of a query, and their variables. -/
namespace Go.Proofs.Ythhbmbkecaffeaa
open Go.RowKit
set_option linter.unusedVariables false
set_option linter.unusedSimpArgs false
set_option synthInstance.maxSize 2000
set_option synthInstance.maxHeartbeats 400000

theorem full_int {n : Nat} (hn : n ≤ 16) : wrap64 (wrap64 ((2 : Int) ^ n) - 1) = ((2 ^ n - 1 : Nat) : Int) := by
  have h1 := Nat.pow_le_pow_right (show 0 < 2 by omega) hn
  have h2 := Nat.two_pow_pos n
  rw [wrap_pow hn]
  generalize 2 ^ n = p at h1 h2
  rw [IntWalk.wrap64_in _ ⟨by omega, by omega⟩]
  omega
theorem fullMask_no {q : DQ} (h : validQ q = false) : fullMask q = 0 := by simp [fullMask, h]
theorem fullMask_yes {q : DQ} (h : validQ q = true) : fullMask q = ((2 ^ q.2.length - 1 : Nat) : Int) := by simp [fullMask, h]

set_option maxHeartbeats 800000 in
theorem maskOk_impl (cs : List Value) (x : DQ) (k : Int) (w : World) (h : rQ.rep w cs x) :
    Calls Try.prog 101 #[.agg cs.toArray, .int .i64 k] w fun e w' => e = .returned (.bool (maskOkB x k)) ∧ Below w.heap.size w w' := by
  obtain ⟨ub, un, uc, rfl, hi, g1⟩ := rQ_open h
  have hl := (rS_sl g1).len
  clear g1 hi
  have hb0 : Below w.heap.size w w := Below.refl _ _
  go_enter Try.func101, Try.ntmps101
  obtain ⟨w1, hw1⟩ : ∃ W, W = w.alloc (.cells #[.int .i64 x.1, .slice ub un uc] 29) := ⟨_, rfl⟩
  have z1 : Below w.heap.size w w1 := by rw [hw1]; exact (Below.refl _ _).alloc (Nat.le_refl _) _
  have s1 : w1.heap.size = w.heap.size + 1 := by rw [hw1]; simp
  have hb1 := on hb0 z1
  have b_0 : w1.cell? ⟨w.heap.size, 0, none⟩ = some (.int .i64 x.1) := by rw [hw1]; exact box_cell (Below.refl _ _) rfl
  have b_1 : w1.cell? ⟨w.heap.size, 1, none⟩ = some (.slice ub un uc) := by rw [hw1]; exact box_cell (Below.refl _ _) rfl
  have raw1_b_0 := b_0
  have raw1_b_1 := b_1
  rw [hw1] at raw1_b_0 raw1_b_1
  go_wp2_with fail
  rw [← hw1]
  clear hw1
  clear raw1_b_0 raw1_b_1
  refine (validQ_impl _ x _ (rQ.mono h hb1)).mono ?_
  rintro e w2 ⟨rfl, z2⟩
  have s3 := z2.size
  have hb3 := on hb1 z2
  replace b_0 := (z2.cell (p := ⟨w.heap.size, 0, none⟩) (by simp only []; omega)).trans b_0
  replace b_1 := (z2.cell (p := ⟨w.heap.size, 1, none⟩) (by simp only []; omega)).trans b_1
  by_cases hv : validQ x = true
  case neg =>
    replace hv : validQ x = false := by simpa using hv
    have HE := Lib.hid (show maskOkB x k = false by simp [maskOkB, hv])
    clear hl
    go_wp2_with fail
    go_ret
    exact ⟨ret_bool HE.out.symm, hb3⟩
  have h9 : un ≤ 16 := by obtain ⟨n, hq⟩ := QOk.of hv; have := hq.len; omega
  have HE := Lib.hid (show betw k 0 (wrap64 (wrap64 ((2 : Int) ^ un) - 1)) = maskOkB x k by rw [full_int h9, ← hl]; simp [maskOkB, hv])
  clear hl
  go_wp2_with fail
  refine (within_any _ _ _ _).mono ?_
  rintro e w' ⟨rfl, rfl⟩
  obtain ⟨t, ht⟩ : ∃ t, t = betw k 0 (wrap64 (wrap64 ((2 : Int) ^ un) - 1)) := ⟨_, rfl⟩
  rw [← ht] at HE ⊢
  clear ht
  go_wp2_with fail
  go_ret
  exact ⟨ret_bool HE.out, hb3⟩

set_option maxHeartbeats 800000 in
theorem maskOk_spec (cs : List Value) (x : DQ) (k : Int) (w : World) (h : rQ.rep w cs x) :
    Calls Try.prog 100 #[.agg cs.toArray, .int .i64 k] w fun e w' => e = .returned (.bool (maskOkB x k)) ∧ Below w.heap.size w w' := by
  obtain ⟨ub, un, uc, rfl, hi, g1⟩ := rQ_open h
  have hl := (rS_sl g1).len
  clear g1 hi
  have hb0 : Below w.heap.size w w := Below.refl _ _
  go_enter Try.func100, Try.ntmps100
  obtain ⟨w1, hw1⟩ : ∃ W, W = w.alloc (.cells #[.int .i64 x.1, .slice ub un uc] 29) := ⟨_, rfl⟩
  have z1 : Below w.heap.size w w1 := by rw [hw1]; exact (Below.refl _ _).alloc (Nat.le_refl _) _
  have s1 : w1.heap.size = w.heap.size + 1 := by rw [hw1]; simp
  have hb1 := on hb0 z1
  have b_0 : w1.cell? ⟨w.heap.size, 0, none⟩ = some (.int .i64 x.1) := by rw [hw1]; exact box_cell (Below.refl _ _) rfl
  have b_1 : w1.cell? ⟨w.heap.size, 1, none⟩ = some (.slice ub un uc) := by rw [hw1]; exact box_cell (Below.refl _ _) rfl
  have raw1_b_0 := b_0
  have raw1_b_1 := b_1
  rw [hw1] at raw1_b_0 raw1_b_1
  go_wp2_with fail
  rw [← hw1]
  clear hw1
  clear raw1_b_0 raw1_b_1
  refine (validQ_spec _ x _ (rQ.mono h hb1)).mono ?_
  rintro e w2 ⟨rfl, z2⟩
  have s3 := z2.size
  have hb3 := on hb1 z2
  replace b_0 := (z2.cell (p := ⟨w.heap.size, 0, none⟩) (by simp only []; omega)).trans b_0
  replace b_1 := (z2.cell (p := ⟨w.heap.size, 1, none⟩) (by simp only []; omega)).trans b_1
  by_cases hv : validQ x = true
  case neg =>
    replace hv : validQ x = false := by simpa using hv
    have HE := Lib.hid (show maskOkB x k = false by simp [maskOkB, hv])
    clear hl
    go_wp2_with fail
    go_ret
    exact ⟨ret_bool HE.out.symm, hb3⟩
  have h9 : un ≤ 16 := by obtain ⟨n, hq⟩ := QOk.of hv; have := hq.len; omega
  have HE := Lib.hid (show betw k 0 (wrap64 (wrap64 ((2 : Int) ^ un) - 1)) = maskOkB x k by rw [full_int h9, ← hl]; simp [maskOkB, hv])
  clear hl
  go_wp2_with fail
  refine (l1In_any _ _ _ _).mono ?_
  rintro e w' ⟨rfl, rfl⟩
  obtain ⟨t, ht⟩ : ∃ t, t = betw k 0 (wrap64 (wrap64 ((2 : Int) ^ un) - 1)) := ⟨_, rfl⟩
  rw [← ht] at HE ⊢
  clear ht
  go_wp2_with fail
  go_ret
  exact ⟨ret_bool HE.out, hb3⟩

end Go.Proofs.Ythhbmbkecaffeaa

/- Contracts: tables looked up (2). -/
namespace Go.Proofs.Ythhbmbkecaffeaa
open Go.RowKit Go.Sort
set_option linter.unusedVariables false
set_option linter.unusedSimpArgs false
set_option synthInstance.maxSize 2000
set_option synthInstance.maxHeartbeats 400000

set_option maxHeartbeats 1000000 in
theorem indexT_any (ub : Option Addr) (un uc : Nat) (x : List DT) (name : ByteArray) (p : Addr) (w : World) (h : rTl.rep w [.slice ub un uc] x) (hp : w.cell? p = some (.string name)) (hps : p.spot = none) :
    Calls Try.prog 109 #[.slice ub un uc, .func (.func 110) #[] #[.pointer (some p)]] w fun e w' => e = .returned (.int .i64 (idxFrom name 0 x)) ∧ Below w.heap.size w w' := by
  have t1 := rS_sl h
  have hl := t1.len
  have hn := t1.small
  have HV : Hid (idxFrom name 0 x = idxFrom name 0 (x.drop 0)) := rfl
  have HL := Lib.hid hl
  obtain ⟨pb, po, ps⟩ := p
  simp only at hps
  subst hps
  have hplt : pb < w.heap.size := cell_lt hp
  clear h
  have hb0 : Below w.heap.size w w := Below.refl _ _
  have c0 : w.cell? ⟨pb, po, none⟩ = some (.string name) := hp
  clear hp
  go_enter Try.func109, Try.ntmps109
  go_wp2_with fail
  go_loopw [8] (fun k wr => ∃ j : Nat, j ≤ un ∧ k = .int .i64 j ∧ Hid (idxFrom name 0 x = idxFrom name j (x.drop j)) ∧ Below w.heap.size w wr) (fun k _ => un - (intOf k).toNat)
  case atStart => exact ⟨0, Nat.zero_le _, rfl, HV.out, Below.refl _ _⟩
  case round =>
    obtain ⟨j, hj, rfl, hE, hdr⟩ := hrel
    obtain ⟨wo, rfl⟩ : ∃ W, W = wr := ⟨_, rfl⟩
    have hlc := hdr
    have s1 := hdr.size
    have hb1 := on hb0 hdr
    replace c0 := (hdr.cell (p := ⟨pb, po, none⟩) (by simp only []; omega)).trans c0
    by_cases hlt : j < un
    · obtain ⟨b1, o1, cs, t, rfl, hx, hr, hc⟩ := t1.at hlt
      have hcall := fun W (hW : Below w.heap.size w W) hq => lookFn_any cs t name ⟨pb, po, none⟩ W (rT.mono hr hW) hq rfl
      by_cases hne : t.1 = name
      · have HE : Hid (idxFrom name 0 x = (j : Int)) := Lib.hid (hE.out.trans (idxFrom_yes hx.out hne))
        have hd : decide (t.1 = name) = true := decide_eq_true hne
        simp only [hd] at hcall
        have HC := Lib.hid hcall
        obtain ⟨s, i, rows⟩ := t
        obtain ⟨tb, tn, tc, rfl, hs, hi, g2⟩ := rT_open hr
        simp only at hs hi g2 HC
        have e_lt : b1 < w.heap.size := cell_lt (hc 0 _ rfl)
        have e_0 : wo.cell? ⟨b1, o1 + j * 3, none⟩ = some (.string s) := (hb1.cell (p := ⟨b1, o1 + j * 3, none⟩) e_lt).trans (by have h9 := hc 0 _ rfl; rw [← Nat.add_assoc] at h9; exact h9)
        have e_1 : wo.cell? ⟨b1, o1 + j * 3 + 1, none⟩ = some (.int .i64 i) := (hb1.cell (p := ⟨b1, o1 + j * 3 + 1, none⟩) e_lt).trans (by have h9 := hc 1 _ rfl; rw [← Nat.add_assoc] at h9; exact h9)
        have e_2 : wo.cell? ⟨b1, o1 + j * 3 + 2, none⟩ = some (.slice tb tn tc) := (hb1.cell (p := ⟨b1, o1 + j * 3 + 2, none⟩) e_lt).trans (by have h9 := hc 2 _ rfl; rw [← Nat.add_assoc] at h9; exact h9)
        clear hcall hd hne hE HV hx hr hc g2 hl t1 hs hi
        go_wp2_with (go_at_call 110; refine (HC.out _ hb1 c0).mono ?_; rintro e w8 ⟨rfl, z8⟩)
        have s2 := z8.size
        have hb2 := on hb1 z8
        replace c0 := (z8.cell (p := ⟨pb, po, none⟩) (by simp only []; omega)).trans c0
        replace hlc := on hlc z8
        replace e_0 := (z8.cell (p := ⟨b1, o1 + j * 3, none⟩) (by simp only []; omega)).trans e_0
        replace e_1 := (z8.cell (p := ⟨b1, o1 + j * 3 + 1, none⟩) (by simp only []; omega)).trans e_1
        replace e_2 := (z8.cell (p := ⟨b1, o1 + j * 3 + 2, none⟩) (by simp only []; omega)).trans e_2
        go_wp2_with fail
        go_ret
        exact ⟨by rw [HE.out]; rfl, hb2⟩
      · have HE : Hid (idxFrom name 0 x = idxFrom name (j + 1) (x.drop (j + 1))) := Lib.hid (hE.out.trans (idxFrom_no hx.out hne))
        have hd : decide (t.1 = name) = false := decide_eq_false hne
        simp only [hd] at hcall
        have HC := Lib.hid hcall
        obtain ⟨s, i, rows⟩ := t
        obtain ⟨tb, tn, tc, rfl, hs, hi, g2⟩ := rT_open hr
        simp only at hs hi g2 HC
        have e_lt : b1 < w.heap.size := cell_lt (hc 0 _ rfl)
        have e_0 : wo.cell? ⟨b1, o1 + j * 3, none⟩ = some (.string s) := (hb1.cell (p := ⟨b1, o1 + j * 3, none⟩) e_lt).trans (by have h9 := hc 0 _ rfl; rw [← Nat.add_assoc] at h9; exact h9)
        have e_1 : wo.cell? ⟨b1, o1 + j * 3 + 1, none⟩ = some (.int .i64 i) := (hb1.cell (p := ⟨b1, o1 + j * 3 + 1, none⟩) e_lt).trans (by have h9 := hc 1 _ rfl; rw [← Nat.add_assoc] at h9; exact h9)
        have e_2 : wo.cell? ⟨b1, o1 + j * 3 + 2, none⟩ = some (.slice tb tn tc) := (hb1.cell (p := ⟨b1, o1 + j * 3 + 2, none⟩) e_lt).trans (by have h9 := hc 2 _ rfl; rw [← Nat.add_assoc] at h9; exact h9)
        clear hcall hd hne hE HV hx hr hc g2 hl t1 hs hi
        go_wp2_with (go_at_call 110; refine (HC.out _ hb1 c0).mono ?_; rintro e w8 ⟨rfl, z8⟩)
        have s3 := z8.size
        have hb3 := on hb1 z8
        replace c0 := (z8.cell (p := ⟨pb, po, none⟩) (by simp only []; omega)).trans c0
        replace hlc := on hlc z8
        replace e_0 := (z8.cell (p := ⟨b1, o1 + j * 3, none⟩) (by simp only []; omega)).trans e_0
        replace e_1 := (z8.cell (p := ⟨b1, o1 + j * 3 + 1, none⟩) (by simp only []; omega)).trans e_1
        replace e_2 := (z8.cell (p := ⟨b1, o1 + j * 3 + 2, none⟩) (by simp only []; omega)).trans e_2
        go_wp2_with fail
        go_roundw
        case rel => exact ⟨j + 1, by omega, by go_num, HE.out, hlc⟩
        case measure => simp [intOf]; omega
    · have HE : Hid (idxFrom name 0 x = -1) := Lib.hid (hE.out.trans (idxFrom_end (by have := HL.out; omega)))
      clear t1 hl hE HV
      go_wp2_with fail
      go_ret
      exact ⟨by rw [HE.out]; rfl, hb1⟩

theorem look_some_idx {db : DDb} {name : ByteArray} {t : DT} (h : look db name = some t) : ∃ k : Nat, idxFrom name 0 db = (k : Int) ∧ db[k]? = some t ∧ validDb db = true := by
  unfold look at h
  split at h
  · rename_i hv
    rcases @idx_find name db 0 with ⟨_, h2⟩ | ⟨k, u, h1, h2, h3⟩
    · rw [h2] at h; cases h
    · rw [h3] at h
      obtain rfl := Option.some.inj h
      exact ⟨k, by simpa using h1, h2, hv⟩
  · cases h
theorem look_none_idx {db : DDb} {name : ByteArray} (h : look db name = none) : idxFrom name 0 db = -1 ∨ ∃ k : Nat, idxFrom name 0 db = (k : Int) ∧ validDb db = false := by
  unfold look at h
  rcases @idx_find name db 0 with ⟨h1, _⟩ | ⟨k, u, h1, h2, h3⟩
  · exact .inl h1
  · split at h
    · rw [h3] at h; cases h
    · rename_i hv
      exact .inr ⟨k, by simpa using h1, by simpa using hv⟩
/-- The table that is handed back where there is none. -/
abbrev noT : Array Value := #[.string ⟨#[]⟩, .int .i64 0, .slice none 0 0]

set_option maxHeartbeats 1000000 in
theorem lookI_none (cs : List Value) (db : DDb) (name : ByteArray) (w : World) (h : rDb.rep w cs db) (hL : look db name = none) :
    Calls Try.prog 68 #[.agg cs.toArray, .string name] w fun e w' => e = .returned (.tuple #[.agg noT, .bool false]) ∧ Below w.heap.size w w' := by
  obtain ⟨ub, un, uc, rfl, g1⟩ := rDb_open h
  have hcall := fun W p (hW : Below w.heap.size w W) hq hs => indexT_any ub un uc db name p W (rTl.mono g1 hW) hq hs
  have hval := fun W (hW : Below w.heap.size w W) => validDb_impl [.slice ub un uc] db W (rDb.mono h hW)
  clear h g1
  rcases look_none_idx hL with HI | ⟨k, HI, hv⟩
  · simp only [HI] at hcall
    have HC := Lib.hid hcall
    clear hcall hval HI hL
    have hb0 : Below w.heap.size w w := Below.refl _ _
    go_enter Try.func68, Try.ntmps68
    obtain ⟨w1, hw1⟩ : ∃ W, W = w.alloc (.cells #[.slice ub un uc] 49) := ⟨_, rfl⟩
    have z1 : Below w.heap.size w w1 := by rw [hw1]; exact (Below.refl _ _).alloc (Nat.le_refl _) _
    have s1 : w1.heap.size = w.heap.size + 1 := by rw [hw1]; simp
    have hb1 := on hb0 z1
    have b_0 : w1.cell? ⟨w.heap.size, 0, none⟩ = some (.slice ub un uc) := by rw [hw1]; exact box_cell (Below.refl _ _) rfl
    have b_f0 : w1.frozen? ⟨w.heap.size, 0, none⟩ = false := by rw [hw1]; exact box_frozen (Below.refl _ _)
    have raw1_b_0 := b_0
    rw [hw1] at raw1_b_0
    obtain ⟨w2, hw2⟩ : ∃ W, W = w1.alloc (.cells #[.string name] 9) := ⟨_, rfl⟩
    have z2 : Below w1.heap.size w1 w2 := by rw [hw2]; exact (Below.refl _ _).alloc (Nat.le_refl _) _
    have s2 : w2.heap.size = w1.heap.size + 1 := by rw [hw2]; simp
    have hb2 := on hb1 z2
    replace b_0 := (z2.cell (p := ⟨w.heap.size, 0, none⟩) (by simp only []; omega)).trans b_0
    replace b_f0 := (z2.frozen (p := ⟨w.heap.size, 0, none⟩) (by simp only []; omega)).trans b_f0
    have e2 : w1.heap.size = w.heap.size + 1 := by omega
    have p_0 : w2.cell? ⟨w1.heap.size, 0, none⟩ = some (.string name) := by rw [hw2]; exact box_cell (Below.refl _ _) rfl
    rw [e2] at p_0
    have p_f0 : w2.frozen? ⟨w1.heap.size, 0, none⟩ = false := by rw [hw2]; exact box_frozen (Below.refl _ _)
    rw [e2] at p_f0
    have raw2_b_0 := b_0
    have raw2_p_0 := p_0
    rw [hw2, hw1] at raw2_b_0 raw2_p_0
    obtain ⟨w3, hw3⟩ : ∃ W, W = w2.alloc (.cells #[.string ⟨#[]⟩, .int .i64 0, .slice none 0 0] 91) := ⟨_, rfl⟩
    have z3 : Below w2.heap.size w2 w3 := by rw [hw3]; exact (Below.refl _ _).alloc (Nat.le_refl _) _
    have s3 : w3.heap.size = w2.heap.size + 1 := by rw [hw3]; simp
    have hb3 := on hb2 z3
    replace b_0 := (z3.cell (p := ⟨w.heap.size, 0, none⟩) (by simp only []; omega)).trans b_0
    replace b_f0 := (z3.frozen (p := ⟨w.heap.size, 0, none⟩) (by simp only []; omega)).trans b_f0
    replace p_0 := (z3.cell (p := ⟨w.heap.size + 1, 0, none⟩) (by simp only []; omega)).trans p_0
    replace p_f0 := (z3.frozen (p := ⟨w.heap.size + 1, 0, none⟩) (by simp only []; omega)).trans p_f0
    have e3 : w2.heap.size = w.heap.size + 1 + 1 := by omega
    have r_0 : w3.cell? ⟨w2.heap.size, 0, none⟩ = some (.string ⟨#[]⟩) := by rw [hw3]; exact box_cell (Below.refl _ _) rfl
    have r_1 : w3.cell? ⟨w2.heap.size, 1, none⟩ = some (.int .i64 0) := by rw [hw3]; exact box_cell (Below.refl _ _) rfl
    have r_2 : w3.cell? ⟨w2.heap.size, 2, none⟩ = some (.slice none 0 0) := by rw [hw3]; exact box_cell (Below.refl _ _) rfl
    rw [e3] at r_0 r_1 r_2
    have r_f0 : w3.frozen? ⟨w2.heap.size, 0, none⟩ = false := by rw [hw3]; exact box_frozen (Below.refl _ _)
    have r_f1 : w3.frozen? ⟨w2.heap.size, 1, none⟩ = false := by rw [hw3]; exact box_frozen (Below.refl _ _)
    have r_f2 : w3.frozen? ⟨w2.heap.size, 2, none⟩ = false := by rw [hw3]; exact box_frozen (Below.refl _ _)
    rw [e3] at r_f0 r_f1 r_f2
    have raw3_b_0 := b_0
    have raw3_p_0 := p_0
    have raw3_r_0 := r_0
    have raw3_r_1 := r_1
    have raw3_r_2 := r_2
    rw [hw3, hw2, hw1] at raw3_b_0 raw3_p_0 raw3_r_0 raw3_r_1 raw3_r_2
    go_wp2_with fail
    rw [← hw1]
    rw [← hw2]
    rw [← hw3]
    clear hw3 hw2 hw1
    clear raw1_b_0 raw2_b_0 raw2_p_0 raw3_b_0 raw3_p_0 raw3_r_0 raw3_r_1 raw3_r_2
    refine (HC.out _ _ hb3 p_0 rfl).mono ?_
    rintro e w9 ⟨rfl, z9⟩
    have s4 := z9.size
    have hb4 := on hb3 z9
    replace b_0 := (z9.cell (p := ⟨w.heap.size, 0, none⟩) (by simp only []; omega)).trans b_0
    replace b_f0 := (z9.frozen (p := ⟨w.heap.size, 0, none⟩) (by simp only []; omega)).trans b_f0
    replace p_0 := (z9.cell (p := ⟨w.heap.size + 1, 0, none⟩) (by simp only []; omega)).trans p_0
    replace p_f0 := (z9.frozen (p := ⟨w.heap.size + 1, 0, none⟩) (by simp only []; omega)).trans p_f0
    replace r_0 := (z9.cell (p := ⟨w.heap.size + 1 + 1, 0, none⟩) (by simp only []; omega)).trans r_0
    replace r_1 := (z9.cell (p := ⟨w.heap.size + 1 + 1, 1, none⟩) (by simp only []; omega)).trans r_1
    replace r_2 := (z9.cell (p := ⟨w.heap.size + 1 + 1, 2, none⟩) (by simp only []; omega)).trans r_2
    replace r_f0 := (z9.frozen (p := ⟨w.heap.size + 1 + 1, 0, none⟩) (by simp only []; omega)).trans r_f0
    replace r_f1 := (z9.frozen (p := ⟨w.heap.size + 1 + 1, 1, none⟩) (by simp only []; omega)).trans r_f1
    replace r_f2 := (z9.frozen (p := ⟨w.heap.size + 1 + 1, 2, none⟩) (by simp only []; omega)).trans r_f2
    go_wp2_with fail
    refine bodyPost_ret (v := .tuple #[.agg noT, .bool false]) (by simp [results, Try.results68, go_sem, noT, r_0, r_1, r_2, r_f0, r_f1, r_f2]) rfl ⟨rfl, ?_⟩
    repeat (refine Below.setCell ?_ (by simp only []; omega) _)
    exact hb4
  · simp only [HI] at hcall
    simp only [hv] at hval
    have HC := Lib.hid hcall
    have HV := Lib.hid hval
    clear hcall hval HI hL hv
    have hb0 : Below w.heap.size w w := Below.refl _ _
    go_enter Try.func68, Try.ntmps68
    obtain ⟨w5, hw5⟩ : ∃ W, W = w.alloc (.cells #[.slice ub un uc] 49) := ⟨_, rfl⟩
    have z5 : Below w.heap.size w w5 := by rw [hw5]; exact (Below.refl _ _).alloc (Nat.le_refl _) _
    have s5 : w5.heap.size = w.heap.size + 1 := by rw [hw5]; simp
    have hb5 := on hb0 z5
    have b_0 : w5.cell? ⟨w.heap.size, 0, none⟩ = some (.slice ub un uc) := by rw [hw5]; exact box_cell (Below.refl _ _) rfl
    have b_f0 : w5.frozen? ⟨w.heap.size, 0, none⟩ = false := by rw [hw5]; exact box_frozen (Below.refl _ _)
    have raw5_b_0 := b_0
    rw [hw5] at raw5_b_0
    obtain ⟨w6, hw6⟩ : ∃ W, W = w5.alloc (.cells #[.string name] 9) := ⟨_, rfl⟩
    have z6 : Below w5.heap.size w5 w6 := by rw [hw6]; exact (Below.refl _ _).alloc (Nat.le_refl _) _
    have s6 : w6.heap.size = w5.heap.size + 1 := by rw [hw6]; simp
    have hb6 := on hb5 z6
    replace b_0 := (z6.cell (p := ⟨w.heap.size, 0, none⟩) (by simp only []; omega)).trans b_0
    replace b_f0 := (z6.frozen (p := ⟨w.heap.size, 0, none⟩) (by simp only []; omega)).trans b_f0
    have e6 : w5.heap.size = w.heap.size + 1 := by omega
    have p_0 : w6.cell? ⟨w5.heap.size, 0, none⟩ = some (.string name) := by rw [hw6]; exact box_cell (Below.refl _ _) rfl
    rw [e6] at p_0
    have p_f0 : w6.frozen? ⟨w5.heap.size, 0, none⟩ = false := by rw [hw6]; exact box_frozen (Below.refl _ _)
    rw [e6] at p_f0
    have raw6_b_0 := b_0
    have raw6_p_0 := p_0
    rw [hw6, hw5] at raw6_b_0 raw6_p_0
    obtain ⟨w7, hw7⟩ : ∃ W, W = w6.alloc (.cells #[.string ⟨#[]⟩, .int .i64 0, .slice none 0 0] 91) := ⟨_, rfl⟩
    have z7 : Below w6.heap.size w6 w7 := by rw [hw7]; exact (Below.refl _ _).alloc (Nat.le_refl _) _
    have s7 : w7.heap.size = w6.heap.size + 1 := by rw [hw7]; simp
    have hb7 := on hb6 z7
    replace b_0 := (z7.cell (p := ⟨w.heap.size, 0, none⟩) (by simp only []; omega)).trans b_0
    replace b_f0 := (z7.frozen (p := ⟨w.heap.size, 0, none⟩) (by simp only []; omega)).trans b_f0
    replace p_0 := (z7.cell (p := ⟨w.heap.size + 1, 0, none⟩) (by simp only []; omega)).trans p_0
    replace p_f0 := (z7.frozen (p := ⟨w.heap.size + 1, 0, none⟩) (by simp only []; omega)).trans p_f0
    have e7 : w6.heap.size = w.heap.size + 1 + 1 := by omega
    have r_0 : w7.cell? ⟨w6.heap.size, 0, none⟩ = some (.string ⟨#[]⟩) := by rw [hw7]; exact box_cell (Below.refl _ _) rfl
    have r_1 : w7.cell? ⟨w6.heap.size, 1, none⟩ = some (.int .i64 0) := by rw [hw7]; exact box_cell (Below.refl _ _) rfl
    have r_2 : w7.cell? ⟨w6.heap.size, 2, none⟩ = some (.slice none 0 0) := by rw [hw7]; exact box_cell (Below.refl _ _) rfl
    rw [e7] at r_0 r_1 r_2
    have r_f0 : w7.frozen? ⟨w6.heap.size, 0, none⟩ = false := by rw [hw7]; exact box_frozen (Below.refl _ _)
    have r_f1 : w7.frozen? ⟨w6.heap.size, 1, none⟩ = false := by rw [hw7]; exact box_frozen (Below.refl _ _)
    have r_f2 : w7.frozen? ⟨w6.heap.size, 2, none⟩ = false := by rw [hw7]; exact box_frozen (Below.refl _ _)
    rw [e7] at r_f0 r_f1 r_f2
    have raw7_b_0 := b_0
    have raw7_p_0 := p_0
    have raw7_r_0 := r_0
    have raw7_r_1 := r_1
    have raw7_r_2 := r_2
    rw [hw7, hw6, hw5] at raw7_b_0 raw7_p_0 raw7_r_0 raw7_r_1 raw7_r_2
    go_wp2_with fail
    rw [← hw5]
    rw [← hw6]
    rw [← hw7]
    clear hw7 hw6 hw5
    clear raw5_b_0 raw6_b_0 raw6_p_0 raw7_b_0 raw7_p_0 raw7_r_0 raw7_r_1 raw7_r_2
    refine (HC.out _ _ hb7 p_0 rfl).mono ?_
    rintro e w9 ⟨rfl, z9⟩
    have s8 := z9.size
    have hb8 := on hb7 z9
    replace b_0 := (z9.cell (p := ⟨w.heap.size, 0, none⟩) (by simp only []; omega)).trans b_0
    replace b_f0 := (z9.frozen (p := ⟨w.heap.size, 0, none⟩) (by simp only []; omega)).trans b_f0
    replace p_0 := (z9.cell (p := ⟨w.heap.size + 1, 0, none⟩) (by simp only []; omega)).trans p_0
    replace p_f0 := (z9.frozen (p := ⟨w.heap.size + 1, 0, none⟩) (by simp only []; omega)).trans p_f0
    replace r_0 := (z9.cell (p := ⟨w.heap.size + 1 + 1, 0, none⟩) (by simp only []; omega)).trans r_0
    replace r_1 := (z9.cell (p := ⟨w.heap.size + 1 + 1, 1, none⟩) (by simp only []; omega)).trans r_1
    replace r_2 := (z9.cell (p := ⟨w.heap.size + 1 + 1, 2, none⟩) (by simp only []; omega)).trans r_2
    replace r_f0 := (z9.frozen (p := ⟨w.heap.size + 1 + 1, 0, none⟩) (by simp only []; omega)).trans r_f0
    replace r_f1 := (z9.frozen (p := ⟨w.heap.size + 1 + 1, 1, none⟩) (by simp only []; omega)).trans r_f1
    replace r_f2 := (z9.frozen (p := ⟨w.heap.size + 1 + 1, 2, none⟩) (by simp only []; omega)).trans r_f2
    go_wp2_with fail
    refine (HV.out _ hb8).mono ?_
    rintro e w10 ⟨rfl, z10⟩
    have s9 := z10.size
    have hb9 := on hb8 z10
    replace b_0 := (z10.cell (p := ⟨w.heap.size, 0, none⟩) (by simp only []; omega)).trans b_0
    replace b_f0 := (z10.frozen (p := ⟨w.heap.size, 0, none⟩) (by simp only []; omega)).trans b_f0
    replace p_0 := (z10.cell (p := ⟨w.heap.size + 1, 0, none⟩) (by simp only []; omega)).trans p_0
    replace p_f0 := (z10.frozen (p := ⟨w.heap.size + 1, 0, none⟩) (by simp only []; omega)).trans p_f0
    replace r_0 := (z10.cell (p := ⟨w.heap.size + 1 + 1, 0, none⟩) (by simp only []; omega)).trans r_0
    replace r_1 := (z10.cell (p := ⟨w.heap.size + 1 + 1, 1, none⟩) (by simp only []; omega)).trans r_1
    replace r_2 := (z10.cell (p := ⟨w.heap.size + 1 + 1, 2, none⟩) (by simp only []; omega)).trans r_2
    replace r_f0 := (z10.frozen (p := ⟨w.heap.size + 1 + 1, 0, none⟩) (by simp only []; omega)).trans r_f0
    replace r_f1 := (z10.frozen (p := ⟨w.heap.size + 1 + 1, 1, none⟩) (by simp only []; omega)).trans r_f1
    replace r_f2 := (z10.frozen (p := ⟨w.heap.size + 1 + 1, 2, none⟩) (by simp only []; omega)).trans r_f2
    go_wp2_with fail
    refine bodyPost_ret (v := .tuple #[.agg noT, .bool false]) (by simp [results, Try.results68, go_sem, noT, r_0, r_1, r_2, r_f0, r_f1, r_f2]) rfl ⟨rfl, ?_⟩
    repeat (refine Below.setCell ?_ (by simp only []; omega) _)
    exact hb9

set_option maxHeartbeats 1000000 in
theorem lookI_some (cs : List Value) (db : DDb) (name : ByteArray) (t : DT) (w : World) (h : rDb.rep w cs db) (hL : look db name = some t) :
    Calls Try.prog 68 #[.agg cs.toArray, .string name] w fun e w' => ∃ ds, e = .returned (.tuple #[.agg ds.toArray, .bool true]) ∧ Own oT w.heap.size w'.heap.size w' ds t ∧ Below w.heap.size w w' := by
  obtain ⟨ub, un, uc, rfl, g1⟩ := rDb_open h
  have hcall := fun W p (hW : Below w.heap.size w W) hq hs => indexT_any ub un uc db name p W (rTl.mono g1 hW) hq hs
  have hval := fun W (hW : Below w.heap.size w W) => validDb_impl [.slice ub un uc] db W (rDb.mono h hW)
  have hbk := (look_ok hL).bulk
  obtain ⟨k, HI, hk, hv⟩ := look_some_idx hL
  have t1 := rS_sl g1
  have hl := t1.len
  have hn := t1.small
  have hlt : k < un := by rw [← hl]; exact (List.getElem?_eq_some_iff.1 hk).1
  simp only [HI] at hcall
  simp only [hv] at hval
  obtain ⟨b1, o1, cs, t', rfl, hx, hr, hc⟩ := t1.at hlt
  obtain rfl : t' = t := by have h9 := hx.out; rw [hk] at h9; exact (Option.some.inj h9).symm
  have hcp := fun W (hW : Below w.heap.size w W) => copyTable_any cs t' W (rT.mono hr hW) (by omega)
  have HC := Lib.hid hcall
  have HV := Lib.hid hval
  obtain ⟨s, i, rows⟩ := t'
  obtain ⟨tb, tn, tc, rfl, hs, hi, g2⟩ := rT_open hr
  simp only at hs hi g2 hcp
  have HP := Lib.hid hcp
  clear hcall hval HI hL hv hcp h g1 hbk hk hx hr g2 t1 hl
  have hb0 : Below w.heap.size w w := Below.refl _ _
  have e_lt : b1 < w.heap.size := cell_lt (hc 0 _ rfl)
  have e_0 : w.cell? ⟨b1, o1 + k * 3, none⟩ = some (.string s) := (hb0.cell (p := ⟨b1, o1 + k * 3, none⟩) e_lt).trans (by have h9 := hc 0 _ rfl; rw [← Nat.add_assoc] at h9; exact h9)
  have e_1 : w.cell? ⟨b1, o1 + k * 3 + 1, none⟩ = some (.int .i64 i) := (hb0.cell (p := ⟨b1, o1 + k * 3 + 1, none⟩) e_lt).trans (by have h9 := hc 1 _ rfl; rw [← Nat.add_assoc] at h9; exact h9)
  have e_2 : w.cell? ⟨b1, o1 + k * 3 + 2, none⟩ = some (.slice tb tn tc) := (hb0.cell (p := ⟨b1, o1 + k * 3 + 2, none⟩) e_lt).trans (by have h9 := hc 2 _ rfl; rw [← Nat.add_assoc] at h9; exact h9)
  clear hc
  go_enter Try.func68, Try.ntmps68
  obtain ⟨w1, hw1⟩ : ∃ W, W = w.alloc (.cells #[.slice (some ⟨b1, o1, none⟩) un uc] 49) := ⟨_, rfl⟩
  have z1 : Below w.heap.size w w1 := by rw [hw1]; exact (Below.refl _ _).alloc (Nat.le_refl _) _
  have s1 : w1.heap.size = w.heap.size + 1 := by rw [hw1]; simp
  have hb1 := on hb0 z1
  have old1_e_0 := e_0
  have old1_e_1 := e_1
  have old1_e_2 := e_2
  replace e_0 := (z1.cell (p := ⟨b1, o1 + k * 3, none⟩) (by simp only []; omega)).trans e_0
  replace e_1 := (z1.cell (p := ⟨b1, o1 + k * 3 + 1, none⟩) (by simp only []; omega)).trans e_1
  replace e_2 := (z1.cell (p := ⟨b1, o1 + k * 3 + 2, none⟩) (by simp only []; omega)).trans e_2
  have b_0 : w1.cell? ⟨w.heap.size, 0, none⟩ = some (.slice (some ⟨b1, o1, none⟩) un uc) := by rw [hw1]; exact box_cell (Below.refl _ _) rfl
  have b_f0 : w1.frozen? ⟨w.heap.size, 0, none⟩ = false := by rw [hw1]; exact box_frozen (Below.refl _ _)
  have raw1_e_0 := e_0
  have raw1_e_1 := e_1
  have raw1_e_2 := e_2
  have raw1_b_0 := b_0
  rw [hw1] at raw1_e_0 raw1_e_1 raw1_e_2 raw1_b_0
  obtain ⟨w2, hw2⟩ : ∃ W, W = w1.alloc (.cells #[.string name] 9) := ⟨_, rfl⟩
  have z2 : Below w1.heap.size w1 w2 := by rw [hw2]; exact (Below.refl _ _).alloc (Nat.le_refl _) _
  have s2 : w2.heap.size = w1.heap.size + 1 := by rw [hw2]; simp
  have hb2 := on hb1 z2
  replace e_0 := (z2.cell (p := ⟨b1, o1 + k * 3, none⟩) (by simp only []; omega)).trans e_0
  replace e_1 := (z2.cell (p := ⟨b1, o1 + k * 3 + 1, none⟩) (by simp only []; omega)).trans e_1
  replace e_2 := (z2.cell (p := ⟨b1, o1 + k * 3 + 2, none⟩) (by simp only []; omega)).trans e_2
  replace b_0 := (z2.cell (p := ⟨w.heap.size, 0, none⟩) (by simp only []; omega)).trans b_0
  replace b_f0 := (z2.frozen (p := ⟨w.heap.size, 0, none⟩) (by simp only []; omega)).trans b_f0
  have e2 : w1.heap.size = w.heap.size + 1 := by omega
  have p_0 : w2.cell? ⟨w1.heap.size, 0, none⟩ = some (.string name) := by rw [hw2]; exact box_cell (Below.refl _ _) rfl
  rw [e2] at p_0
  have p_f0 : w2.frozen? ⟨w1.heap.size, 0, none⟩ = false := by rw [hw2]; exact box_frozen (Below.refl _ _)
  rw [e2] at p_f0
  have raw2_e_0 := e_0
  have raw2_e_1 := e_1
  have raw2_e_2 := e_2
  have raw2_b_0 := b_0
  have raw2_p_0 := p_0
  rw [hw2, hw1] at raw2_e_0 raw2_e_1 raw2_e_2 raw2_b_0 raw2_p_0
  obtain ⟨w3, hw3⟩ : ∃ W, W = w2.alloc (.cells #[.string ⟨#[]⟩, .int .i64 0, .slice none 0 0] 91) := ⟨_, rfl⟩
  have z3 : Below w2.heap.size w2 w3 := by rw [hw3]; exact (Below.refl _ _).alloc (Nat.le_refl _) _
  have s3 : w3.heap.size = w2.heap.size + 1 := by rw [hw3]; simp
  have hb3 := on hb2 z3
  replace e_0 := (z3.cell (p := ⟨b1, o1 + k * 3, none⟩) (by simp only []; omega)).trans e_0
  replace e_1 := (z3.cell (p := ⟨b1, o1 + k * 3 + 1, none⟩) (by simp only []; omega)).trans e_1
  replace e_2 := (z3.cell (p := ⟨b1, o1 + k * 3 + 2, none⟩) (by simp only []; omega)).trans e_2
  replace b_0 := (z3.cell (p := ⟨w.heap.size, 0, none⟩) (by simp only []; omega)).trans b_0
  replace b_f0 := (z3.frozen (p := ⟨w.heap.size, 0, none⟩) (by simp only []; omega)).trans b_f0
  replace p_0 := (z3.cell (p := ⟨w.heap.size + 1, 0, none⟩) (by simp only []; omega)).trans p_0
  replace p_f0 := (z3.frozen (p := ⟨w.heap.size + 1, 0, none⟩) (by simp only []; omega)).trans p_f0
  have e3 : w2.heap.size = w.heap.size + 1 + 1 := by omega
  have r_0 : w3.cell? ⟨w2.heap.size, 0, none⟩ = some (.string ⟨#[]⟩) := by rw [hw3]; exact box_cell (Below.refl _ _) rfl
  have r_1 : w3.cell? ⟨w2.heap.size, 1, none⟩ = some (.int .i64 0) := by rw [hw3]; exact box_cell (Below.refl _ _) rfl
  have r_2 : w3.cell? ⟨w2.heap.size, 2, none⟩ = some (.slice none 0 0) := by rw [hw3]; exact box_cell (Below.refl _ _) rfl
  rw [e3] at r_0 r_1 r_2
  have r_f0 : w3.frozen? ⟨w2.heap.size, 0, none⟩ = false := by rw [hw3]; exact box_frozen (Below.refl _ _)
  have r_f1 : w3.frozen? ⟨w2.heap.size, 1, none⟩ = false := by rw [hw3]; exact box_frozen (Below.refl _ _)
  have r_f2 : w3.frozen? ⟨w2.heap.size, 2, none⟩ = false := by rw [hw3]; exact box_frozen (Below.refl _ _)
  rw [e3] at r_f0 r_f1 r_f2
  have raw3_e_0 := e_0
  have raw3_e_1 := e_1
  have raw3_e_2 := e_2
  have raw3_b_0 := b_0
  have raw3_p_0 := p_0
  have raw3_r_0 := r_0
  have raw3_r_1 := r_1
  have raw3_r_2 := r_2
  rw [hw3, hw2, hw1] at raw3_e_0 raw3_e_1 raw3_e_2 raw3_b_0 raw3_p_0 raw3_r_0 raw3_r_1 raw3_r_2
  go_wp2_with fail
  rw [← hw1]
  rw [← hw2]
  rw [← hw3]
  clear hw3 hw2 hw1
  clear old1_e_0 old1_e_1 old1_e_2 raw1_e_0 raw1_e_1 raw1_e_2 raw1_b_0 raw2_e_0 raw2_e_1 raw2_e_2 raw2_b_0 raw2_p_0 raw3_e_0 raw3_e_1 raw3_e_2 raw3_b_0 raw3_p_0 raw3_r_0 raw3_r_1 raw3_r_2
  refine (HC.out _ _ hb3 p_0 rfl).mono ?_
  rintro e w9 ⟨rfl, z9⟩
  have s4 := z9.size
  have hb4 := on hb3 z9
  replace e_0 := (z9.cell (p := ⟨b1, o1 + k * 3, none⟩) (by simp only []; omega)).trans e_0
  replace e_1 := (z9.cell (p := ⟨b1, o1 + k * 3 + 1, none⟩) (by simp only []; omega)).trans e_1
  replace e_2 := (z9.cell (p := ⟨b1, o1 + k * 3 + 2, none⟩) (by simp only []; omega)).trans e_2
  replace b_0 := (z9.cell (p := ⟨w.heap.size, 0, none⟩) (by simp only []; omega)).trans b_0
  replace b_f0 := (z9.frozen (p := ⟨w.heap.size, 0, none⟩) (by simp only []; omega)).trans b_f0
  replace p_0 := (z9.cell (p := ⟨w.heap.size + 1, 0, none⟩) (by simp only []; omega)).trans p_0
  replace p_f0 := (z9.frozen (p := ⟨w.heap.size + 1, 0, none⟩) (by simp only []; omega)).trans p_f0
  replace r_0 := (z9.cell (p := ⟨w.heap.size + 1 + 1, 0, none⟩) (by simp only []; omega)).trans r_0
  replace r_1 := (z9.cell (p := ⟨w.heap.size + 1 + 1, 1, none⟩) (by simp only []; omega)).trans r_1
  replace r_2 := (z9.cell (p := ⟨w.heap.size + 1 + 1, 2, none⟩) (by simp only []; omega)).trans r_2
  replace r_f0 := (z9.frozen (p := ⟨w.heap.size + 1 + 1, 0, none⟩) (by simp only []; omega)).trans r_f0
  replace r_f1 := (z9.frozen (p := ⟨w.heap.size + 1 + 1, 1, none⟩) (by simp only []; omega)).trans r_f1
  replace r_f2 := (z9.frozen (p := ⟨w.heap.size + 1 + 1, 2, none⟩) (by simp only []; omega)).trans r_f2
  go_wp2_with fail
  refine (HV.out _ hb4).mono ?_
  rintro e w10 ⟨rfl, z10⟩
  have s5 := z10.size
  have hb5 := on hb4 z10
  replace e_0 := (z10.cell (p := ⟨b1, o1 + k * 3, none⟩) (by simp only []; omega)).trans e_0
  replace e_1 := (z10.cell (p := ⟨b1, o1 + k * 3 + 1, none⟩) (by simp only []; omega)).trans e_1
  replace e_2 := (z10.cell (p := ⟨b1, o1 + k * 3 + 2, none⟩) (by simp only []; omega)).trans e_2
  replace b_0 := (z10.cell (p := ⟨w.heap.size, 0, none⟩) (by simp only []; omega)).trans b_0
  replace b_f0 := (z10.frozen (p := ⟨w.heap.size, 0, none⟩) (by simp only []; omega)).trans b_f0
  replace p_0 := (z10.cell (p := ⟨w.heap.size + 1, 0, none⟩) (by simp only []; omega)).trans p_0
  replace p_f0 := (z10.frozen (p := ⟨w.heap.size + 1, 0, none⟩) (by simp only []; omega)).trans p_f0
  replace r_0 := (z10.cell (p := ⟨w.heap.size + 1 + 1, 0, none⟩) (by simp only []; omega)).trans r_0
  replace r_1 := (z10.cell (p := ⟨w.heap.size + 1 + 1, 1, none⟩) (by simp only []; omega)).trans r_1
  replace r_2 := (z10.cell (p := ⟨w.heap.size + 1 + 1, 2, none⟩) (by simp only []; omega)).trans r_2
  replace r_f0 := (z10.frozen (p := ⟨w.heap.size + 1 + 1, 0, none⟩) (by simp only []; omega)).trans r_f0
  replace r_f1 := (z10.frozen (p := ⟨w.heap.size + 1 + 1, 1, none⟩) (by simp only []; omega)).trans r_f1
  replace r_f2 := (z10.frozen (p := ⟨w.heap.size + 1 + 1, 2, none⟩) (by simp only []; omega)).trans r_f2
  go_wp2_with fail
  refine (HP.out _ hb5).mono ?_
  rintro e w11 ⟨ds, rfl, ho, z11⟩
  obtain ⟨vb, vn, vc, rfl⟩ := oT_form ho
  simp only at ho
  have s6 := z11.size
  have hb6 := on hb5 z11
  replace e_0 := (z11.cell (p := ⟨b1, o1 + k * 3, none⟩) (by simp only []; omega)).trans e_0
  replace e_1 := (z11.cell (p := ⟨b1, o1 + k * 3 + 1, none⟩) (by simp only []; omega)).trans e_1
  replace e_2 := (z11.cell (p := ⟨b1, o1 + k * 3 + 2, none⟩) (by simp only []; omega)).trans e_2
  replace b_0 := (z11.cell (p := ⟨w.heap.size, 0, none⟩) (by simp only []; omega)).trans b_0
  replace b_f0 := (z11.frozen (p := ⟨w.heap.size, 0, none⟩) (by simp only []; omega)).trans b_f0
  replace p_0 := (z11.cell (p := ⟨w.heap.size + 1, 0, none⟩) (by simp only []; omega)).trans p_0
  replace p_f0 := (z11.frozen (p := ⟨w.heap.size + 1, 0, none⟩) (by simp only []; omega)).trans p_f0
  replace r_0 := (z11.cell (p := ⟨w.heap.size + 1 + 1, 0, none⟩) (by simp only []; omega)).trans r_0
  replace r_1 := (z11.cell (p := ⟨w.heap.size + 1 + 1, 1, none⟩) (by simp only []; omega)).trans r_1
  replace r_2 := (z11.cell (p := ⟨w.heap.size + 1 + 1, 2, none⟩) (by simp only []; omega)).trans r_2
  replace r_f0 := (z11.frozen (p := ⟨w.heap.size + 1 + 1, 0, none⟩) (by simp only []; omega)).trans r_f0
  replace r_f1 := (z11.frozen (p := ⟨w.heap.size + 1 + 1, 1, none⟩) (by simp only []; omega)).trans r_f1
  replace r_f2 := (z11.frozen (p := ⟨w.heap.size + 1 + 1, 2, none⟩) (by simp only []; omega)).trans r_f2
  go_wp2_with fail
  refine bodyPost_ret (v := .tuple #[.agg #[.string s, .int .i64 i, .slice vb vn vc], .bool true]) (by simp [results, Try.results68, go_sem, r_0, r_1, r_2, r_f0, r_f1, r_f2]) rfl ⟨_, rfl, ?_, ?_⟩
  · refine Own.mono (lo := w10.heap.size) (hi := w11.heap.size) ?_ (by omega) (by simp [World.setCell])
    repeat (refine Own.setOut ?_ rfl (by simp only []; omega))
    exact ho
  · repeat (refine Below.setCell ?_ (by simp only []; omega) _)
    exact hb6

end Go.Proofs.Ythhbmbkecaffeaa

/- Contracts: the variables of a mask. -/
namespace Go.Proofs.Ythhbmbkecaffeaa
open Go.RowKit
set_option linter.unusedVariables false
set_option linter.unusedSimpArgs false
set_option synthInstance.maxSize 2000
set_option synthInstance.maxHeartbeats 400000

set_option maxHeartbeats 1000000 in
theorem l7Bits_any (cs : List Value) (x : DQ) (K n : Nat) (w : World) (h : rQ.rep w cs x) (hq : QOk x n) (hK : K < 16) :
    Calls Try.prog 125 #[.agg cs.toArray, .int .i64 K] w fun e w' => e = .returned (.int .i64 (bitsOf x K)) ∧ Below w.heap.size w w' := by
  obtain ⟨ub, un, uc, rfl, hi, g1⟩ := rQ_open h
  clear h hi
  obtain ⟨i, xs⟩ := x
  simp only at g1
  have t0 := rS_sl g1
  have hl := t0.len
  have hn4 := hq.le
  have hl4 := hq.len
  simp only at hl4
  have hun : un ≤ 4 := by omega
  have HQ := Lib.hid hq
  have HB := Lib.hid (show bitsOf (i, xs) K = qbits K 0 0 (xs.drop 0) by simp [bitsOf])
  clear hq hl4
  have hb0 : Below w.heap.size w w := Below.refl _ _
  go_enter Try.func125, Try.ntmps125
  obtain ⟨w1, hw1⟩ : ∃ W, W = w.alloc (.cells #[.int .i64 i, .slice ub un uc] 29) := ⟨_, rfl⟩
  have z1 : Below w.heap.size w w1 := by rw [hw1]; exact (Below.refl _ _).alloc (Nat.le_refl _) _
  have s1 : w1.heap.size = w.heap.size + 1 := by rw [hw1]; simp
  have hb1 := on hb0 z1
  have b_0 : w1.cell? ⟨w.heap.size, 0, none⟩ = some (.int .i64 i) := by rw [hw1]; exact box_cell (Below.refl _ _) rfl
  have b_1 : w1.cell? ⟨w.heap.size, 1, none⟩ = some (.slice ub un uc) := by rw [hw1]; exact box_cell (Below.refl _ _) rfl
  have raw1_b_0 := b_0
  have raw1_b_1 := b_1
  rw [hw1] at raw1_b_0 raw1_b_1
  go_wp2_with fail
  rw [← hw1]
  clear hw1
  clear raw1_b_0 raw1_b_1
  go_loopw [5, 6] (fun s k wr => ∃ j m : Nat, j ≤ un ∧ m < 2 ^ n ∧ k = .int .i64 j ∧ s = .int .i64 m ∧ Hid (bitsOf (i, xs) K = qbits K m j (xs.drop j)) ∧ Drew w1 wr) (fun _ k _ => un - (intOf k).toNat)
  case atStart => exact ⟨0, 0, Nat.zero_le _, Nat.two_pow_pos _, rfl, rfl, HB.out, Drew.refl _⟩
  case round =>
    obtain ⟨j, m, hj, hm, rfl, rfl, hE, hdr⟩ := hrel
    obtain ⟨wo, rfl⟩ : ∃ W, W = wr := ⟨_, rfl⟩
    have hlc := hdr
    replace hdr : Below w1.heap.size w1 wo := hdr.below _
    have s2 := hdr.size
    have hb2 := on hb1 hdr
    replace b_0 := (hdr.cell (p := ⟨w.heap.size, 0, none⟩) (by simp only []; omega)).trans b_0
    replace b_1 := (hdr.cell (p := ⟨w.heap.size, 1, none⟩) (by simp only []; omega)).trans b_1
    by_cases hlt : j < un
    · obtain ⟨b1, o1, cs, x, rfl, hx, hr, hc⟩ := t0.at hlt
      obtain ⟨s, vs⟩ := x
      obtain ⟨vb, vn, vc, rfl, hs, g2⟩ := rA_open hr
      simp only at hs g2
      have i0 := rI_ints g2
      have hvl := i0.len
      have hvs := i0.small
      have e_lt : b1 < w.heap.size := cell_lt (hc 0 _ rfl)
      have e_0 : wo.cell? ⟨b1, o1 + j * 2, none⟩ = some (.string s) := (hb2.cell (p := ⟨b1, o1 + j * 2, none⟩) e_lt).trans (by have h9 := hc 0 _ rfl; rw [← Nat.add_assoc] at h9; exact h9)
      have e_1 : wo.cell? ⟨b1, o1 + j * 2 + 1, none⟩ = some (.slice vb vn vc) := (hb2.cell (p := ⟨b1, o1 + j * 2 + 1, none⟩) e_lt).trans (by have h9 := hc 1 _ rfl; rw [← Nat.add_assoc] at h9; exact h9)
      have HA := Lib.hid (hE.out.trans (qbits_at hx.out))
      have HV := Lib.hid (HQ.out.vars _ (List.mem_of_getElem? hx.out))
      clear hc t0 hr hl hx hE HB
      simp only at HA HV
      have hbt := bit_test K j (by omega)
      cases hb : bitAt K j with
      | true =>
        rw [hb] at HA hbt
        replace HA : Hid (bitsOf (i, xs) K = qbits K (vbits m (vs.drop 0)) (j + 1) (xs.drop (j + 1))) := Lib.hid (by rw [HA.out]; simp)
        clear hb
        go_wp2_with fail
        go_loopw [5, 7] (fun s k wr => ∃ i' m : Nat, i' ≤ vn ∧ m < 2 ^ n ∧ k = .int .i64 i' ∧ s = .int .i64 m ∧ Hid (bitsOf (i, xs) K = qbits K (vbits m (vs.drop i')) (j + 1) (xs.drop (j + 1))) ∧ Drew wo wr) (fun _ k _ => vn - (intOf k).toNat)
        case atStart => exact ⟨0, m, Nat.zero_le _, hm, rfl, rfl, HA.out, Drew.refl _⟩
        case round =>
          obtain ⟨i', m, hi, hm, rfl, rfl, hE, hdr⟩ := hrel
          have hlo := hdr
          replace hdr : Below wo.heap.size wo wr := hdr.below _
          have s3 := hdr.size
          have hb3 := on hb2 hdr
          replace b_0 := (hdr.cell (p := ⟨w.heap.size, 0, none⟩) (by simp only []; omega)).trans b_0
          replace b_1 := (hdr.cell (p := ⟨w.heap.size, 1, none⟩) (by simp only []; omega)).trans b_1
          replace e_0 := (hdr.cell (p := ⟨b1, o1 + j * 2, none⟩) (by simp only []; omega)).trans e_0
          replace e_1 := (hdr.cell (p := ⟨b1, o1 + j * 2 + 1, none⟩) (by simp only []; omega)).trans e_1
          have hm16 := pow_le16 hn4
          by_cases hlv : i' < vn
          · obtain ⟨b2, o2, v, rfl, hc, hv, hv1, hv2⟩ := i0.get hlv
            have v0_lt : b2 < w.heap.size := cell_lt hc
            have v0 : wr.cell? ⟨b2, o2 + i', none⟩ = some (.int .i64 v) := (hb3.cell (p := ⟨b2, o2 + i', none⟩) v0_lt).trans hc
            clear hc
            have hvr := HV.out v (by rw [← hv.out]; exact List.getD_eq_getElem?_getD (l := vs) ▸ (by rw [List.getElem?_eq_getElem (by omega)]; exact List.getElem_mem _))
            obtain ⟨v, rfl⟩ := Int.eq_ofNat_of_zero_le hvr.1
            have hvn : v < n := by omega
            have HE := Lib.hid (hE.out.trans (show _ = qbits K (vbits (m ||| 2 ^ v) (vs.drop (i' + 1))) (j + 1) (xs.drop (j + 1)) by rw [vbits_at (by omega) hv.out]))
            have hmo := or_lt hm hvn
            clear i0 hvl hvr hv hE
            go_wp2_with fail
            go_roundw
            case rel => exact ⟨i' + 1, m ||| 2 ^ v, by omega, hmo, by go_num, by show Value.int _ _ = _; rw [or_pow (by omega) (by omega)], HE.out, hlo⟩
            case measure => simp [intOf]; omega
          · have HE := Lib.hid (show bitsOf (i, xs) K = qbits K m (j + 1) (xs.drop (j + 1)) by rw [hE.out, vbits_end (by omega)])
            clear i0 hvl hE
            go_wp2_with fail
            go_roundw
            case rel => exact ⟨j + 1, m, by omega, hm, by go_num, rfl, HE.out, hlc.trans hlo⟩
            case measure => simp [intOf]; omega
      | false =>
        rw [hb] at HA hbt
        replace HA : Hid (bitsOf (i, xs) K = qbits K m (j + 1) (xs.drop (j + 1))) := Lib.hid (by rw [HA.out]; simp)
        clear hb
        go_wp2_with fail
        go_loopw [5, 7] (fun s k wr => k = .int .i64 0 ∧ s = .int .i64 m ∧ wr = wo) (fun _ _ _ => 0)
        case atStart => exact ⟨rfl, rfl, rfl⟩
        case round =>
          obtain ⟨rfl, rfl, rfl⟩ := hrel
          clear i0 hvl
          by_cases hv0 : 0 < vn
          all_goals
            go_wp2_with fail
            go_roundw
            case rel => exact ⟨j + 1, m, by omega, hm, by go_num, rfl, HA.out, hlc⟩
            case measure => simp [intOf]; omega
    · have HE := Lib.hid (hE.out.trans (qbits_end (by omega)))
      clear t0 hl hE HB
      go_wp2_with fail
      go_ret
      exact ⟨ret_int (by rw [HE.out]), hb2⟩

end Go.Proofs.Ythhbmbkecaffeaa

/- Contracts: tables looked up (3), the reference. -/
namespace Go.Proofs.Ythhbmbkecaffeaa
open Go.RowKit Go.Sort
set_option linter.unusedVariables false
set_option linter.unusedSimpArgs false
set_option synthInstance.maxSize 2000
set_option synthInstance.maxHeartbeats 400000

theorem look_none_valid {db : DDb} {name : ByteArray} (h : look db name = none) (hv : validDb db = true) : idxFrom name 0 db = -1 := by
  rcases look_none_idx h with h1 | ⟨k, h1, h2⟩
  · exact h1
  · rw [hv] at h2; cases h2

set_option maxHeartbeats 1000000 in
theorem lookS_none (cs : List Value) (db : DDb) (name : ByteArray) (w : World) (h : rDb.rep w cs db) (hL : look db name = none) :
    Calls Try.prog 65 #[.agg cs.toArray, .string name] w fun e w' => e = .returned (.tuple #[.agg noT, .bool false]) ∧ Below w.heap.size w w' := by
  obtain ⟨ub, un, uc, rfl, g1⟩ := rDb_open h
  have hval := fun W (hW : Below w.heap.size w W) => validDb_spec [.slice ub un uc] db W (rDb.mono h hW)
  have t1 := rS_sl g1
  have hl := t1.len
  have hn := t1.small
  have HL := Lib.hid hl
  obtain ⟨q, hq⟩ : ∃ q, validDb db = q := ⟨_, rfl⟩
  simp only [hq] at hval
  have HV := Lib.hid hval
  have HQ : Hid (q = true → idxFrom name 0 db = -1) := Lib.hid (fun h9 => look_none_valid hL (hq.trans h9))
  have HE0 : Hid (idxFrom name 0 db = idxFrom name 0 (db.drop 0)) := rfl
  clear hval hL hq h g1 hl
  have hb0 : Below w.heap.size w w := Below.refl _ _
  go_enter Try.func65, Try.ntmps65
  obtain ⟨w1, hw1⟩ : ∃ W, W = w.alloc (.cells #[.slice ub un uc] 49) := ⟨_, rfl⟩
  have z1 : Below w.heap.size w w1 := by rw [hw1]; exact (Below.refl _ _).alloc (Nat.le_refl _) _
  have s1 : w1.heap.size = w.heap.size + 1 := by rw [hw1]; simp
  have hb1 := on hb0 z1
  have b_0 : w1.cell? ⟨w.heap.size, 0, none⟩ = some (.slice ub un uc) := by rw [hw1]; exact box_cell (Below.refl _ _) rfl
  have b_f0 : w1.frozen? ⟨w.heap.size, 0, none⟩ = false := by rw [hw1]; exact box_frozen (Below.refl _ _)
  have raw1_b_0 := b_0
  rw [hw1] at raw1_b_0
  obtain ⟨w2, hw2⟩ : ∃ W, W = w1.alloc (.cells #[.string ⟨#[]⟩, .int .i64 0, .slice none 0 0] 91) := ⟨_, rfl⟩
  have z2 : Below w1.heap.size w1 w2 := by rw [hw2]; exact (Below.refl _ _).alloc (Nat.le_refl _) _
  have s2 : w2.heap.size = w1.heap.size + 1 := by rw [hw2]; simp
  have hb2 := on hb1 z2
  replace b_0 := (z2.cell (p := ⟨w.heap.size, 0, none⟩) (by simp only []; omega)).trans b_0
  replace b_f0 := (z2.frozen (p := ⟨w.heap.size, 0, none⟩) (by simp only []; omega)).trans b_f0
  have e2 : w1.heap.size = w.heap.size + 1 := by omega
  have r_0 : w2.cell? ⟨w1.heap.size, 0, none⟩ = some (.string ⟨#[]⟩) := by rw [hw2]; exact box_cell (Below.refl _ _) rfl
  have r_1 : w2.cell? ⟨w1.heap.size, 1, none⟩ = some (.int .i64 0) := by rw [hw2]; exact box_cell (Below.refl _ _) rfl
  have r_2 : w2.cell? ⟨w1.heap.size, 2, none⟩ = some (.slice none 0 0) := by rw [hw2]; exact box_cell (Below.refl _ _) rfl
  rw [e2] at r_0 r_1 r_2
  have r_f0 : w2.frozen? ⟨w1.heap.size, 0, none⟩ = false := by rw [hw2]; exact box_frozen (Below.refl _ _)
  have r_f1 : w2.frozen? ⟨w1.heap.size, 1, none⟩ = false := by rw [hw2]; exact box_frozen (Below.refl _ _)
  have r_f2 : w2.frozen? ⟨w1.heap.size, 2, none⟩ = false := by rw [hw2]; exact box_frozen (Below.refl _ _)
  rw [e2] at r_f0 r_f1 r_f2
  have raw2_b_0 := b_0
  have raw2_r_0 := r_0
  have raw2_r_1 := r_1
  have raw2_r_2 := r_2
  rw [hw2, hw1] at raw2_b_0 raw2_r_0 raw2_r_1 raw2_r_2
  go_wp2_with fail
  rw [← hw1]
  rw [← hw2]
  clear hw2 hw1
  clear raw1_b_0 raw2_b_0 raw2_r_0 raw2_r_1 raw2_r_2
  go_loopw [6] (fun k wr => ∃ j : Nat, j ≤ un ∧ k = .int .i64 j ∧ Hid (idxFrom name 0 db = idxFrom name j (db.drop j)) ∧ Below w2.heap.size w2 wr) (fun k _ => un - (intOf k).toNat)
  case atStart => exact ⟨0, Nat.zero_le _, rfl, HE0.out, Below.refl _ _⟩
  case round =>
    obtain ⟨j, hj, rfl, hE, hdr⟩ := hrel
    obtain ⟨wo, rfl⟩ : ∃ W, W = wr := ⟨_, rfl⟩
    have hlc := hdr
    have s3 := hdr.size
    have hb3 := on hb2 hdr
    replace b_0 := (hdr.cell (p := ⟨w.heap.size, 0, none⟩) (by simp only []; omega)).trans b_0
    replace b_f0 := (hdr.frozen (p := ⟨w.heap.size, 0, none⟩) (by simp only []; omega)).trans b_f0
    replace r_0 := (hdr.cell (p := ⟨w.heap.size + 1, 0, none⟩) (by simp only []; omega)).trans r_0
    replace r_1 := (hdr.cell (p := ⟨w.heap.size + 1, 1, none⟩) (by simp only []; omega)).trans r_1
    replace r_2 := (hdr.cell (p := ⟨w.heap.size + 1, 2, none⟩) (by simp only []; omega)).trans r_2
    replace r_f0 := (hdr.frozen (p := ⟨w.heap.size + 1, 0, none⟩) (by simp only []; omega)).trans r_f0
    replace r_f1 := (hdr.frozen (p := ⟨w.heap.size + 1, 1, none⟩) (by simp only []; omega)).trans r_f1
    replace r_f2 := (hdr.frozen (p := ⟨w.heap.size + 1, 2, none⟩) (by simp only []; omega)).trans r_f2
    by_cases hlt : j < un
    · go_wp2_with fail
      refine (HV.out _ hb3).mono ?_
      rintro e w9 ⟨rfl, z9⟩
      have s4 := z9.size
      have hb4 := on hb3 z9
      replace b_0 := (z9.cell (p := ⟨w.heap.size, 0, none⟩) (by simp only []; omega)).trans b_0
      replace b_f0 := (z9.frozen (p := ⟨w.heap.size, 0, none⟩) (by simp only []; omega)).trans b_f0
      replace r_0 := (z9.cell (p := ⟨w.heap.size + 1, 0, none⟩) (by simp only []; omega)).trans r_0
      replace r_1 := (z9.cell (p := ⟨w.heap.size + 1, 1, none⟩) (by simp only []; omega)).trans r_1
      replace r_2 := (z9.cell (p := ⟨w.heap.size + 1, 2, none⟩) (by simp only []; omega)).trans r_2
      replace r_f0 := (z9.frozen (p := ⟨w.heap.size + 1, 0, none⟩) (by simp only []; omega)).trans r_f0
      replace r_f1 := (z9.frozen (p := ⟨w.heap.size + 1, 1, none⟩) (by simp only []; omega)).trans r_f1
      replace r_f2 := (z9.frozen (p := ⟨w.heap.size + 1, 2, none⟩) (by simp only []; omega)).trans r_f2
      replace hlc := on hlc z9
      cases q with
      | false =>
        go_wp2_with fail
        refine bodyPost_ret (v := .tuple #[.agg noT, .bool false]) (by simp [results, Try.results65, go_sem, noT, r_0, r_1, r_2, r_f0, r_f1, r_f2]) rfl ⟨rfl, ?_⟩
        repeat (refine Below.setCell ?_ (by simp only []; omega) _)
        exact hb4
      | true =>
        obtain ⟨b1, o1, cs, t, rfl, hx, hr, hc⟩ := t1.at hlt
        have hne : t.1 ≠ name := fun h9 => by have h8 := hE.out.trans (idxFrom_yes hx.out h9); rw [HQ.out rfl] at h8; omega
        have HE : Hid (idxFrom name 0 db = idxFrom name (j + 1) (db.drop (j + 1))) := Lib.hid (hE.out.trans (idxFrom_no hx.out hne))
        have hq9 := bytes_ne hne
        obtain ⟨s, i, rows⟩ := t
        obtain ⟨tb, tn, tc, rfl, hs, hi, g2⟩ := rT_open hr
        simp only at hs hi g2 hq9
        have e_lt : b1 < w.heap.size := cell_lt (hc 0 _ rfl)
        have e_0 : w9.cell? ⟨b1, o1 + j * 3, none⟩ = some (.string s) := (hb4.cell (p := ⟨b1, o1 + j * 3, none⟩) e_lt).trans (by have h9 := hc 0 _ rfl; rw [← Nat.add_assoc] at h9; exact h9)
        have e_1 : w9.cell? ⟨b1, o1 + j * 3 + 1, none⟩ = some (.int .i64 i) := (hb4.cell (p := ⟨b1, o1 + j * 3 + 1, none⟩) e_lt).trans (by have h9 := hc 1 _ rfl; rw [← Nat.add_assoc] at h9; exact h9)
        have e_2 : w9.cell? ⟨b1, o1 + j * 3 + 2, none⟩ = some (.slice tb tn tc) := (hb4.cell (p := ⟨b1, o1 + j * 3 + 2, none⟩) e_lt).trans (by have h9 := hc 2 _ rfl; rw [← Nat.add_assoc] at h9; exact h9)
        clear hE hx hr hc g2 t1 hs hi hne
        go_wp2_with fail
        go_roundw
        case rel => exact ⟨j + 1, by omega, by go_num, HE.out, hlc⟩
        case measure => simp [intOf]; omega
    · go_wp2_with fail
      refine bodyPost_ret (v := .tuple #[.agg noT, .bool false]) (by simp [results, Try.results65, go_sem, noT, r_0, r_1, r_2, r_f0, r_f1, r_f2]) rfl ⟨rfl, ?_⟩
      repeat (refine Below.setCell ?_ (by simp only []; omega) _)
      exact hb3

set_option maxHeartbeats 1000000 in
theorem lookS_some (cs : List Value) (db : DDb) (name : ByteArray) (t : DT) (w : World) (h : rDb.rep w cs db) (hL : look db name = some t) :
    Calls Try.prog 65 #[.agg cs.toArray, .string name] w fun e w' => ∃ ds, e = .returned (.tuple #[.agg ds.toArray, .bool true]) ∧ Own oT w.heap.size w'.heap.size w' ds t ∧ Below w.heap.size w w' := by
  obtain ⟨ub, un, uc, rfl, g1⟩ := rDb_open h
  have hval := fun W (hW : Below w.heap.size w W) => validDb_spec [.slice ub un uc] db W (rDb.mono h hW)
  have hbk := (look_ok hL).bulk
  obtain ⟨k, HI, hk, hv⟩ := look_some_idx hL
  have t1 := rS_sl g1
  have hl := t1.len
  have hn := t1.small
  have hkn : k < un := by rw [← hl]; exact (List.getElem?_eq_some_iff.1 hk).1
  have HL := Lib.hid hl
  simp only [hv] at hval
  have HV := Lib.hid hval
  have HK := Lib.hid hk
  have HI := Lib.hid HI
  have HE0 : Hid (idxFrom name 0 db = idxFrom name 0 (db.drop 0)) := rfl
  clear hval hL hv hk h g1 hl
  have hb0 : Below w.heap.size w w := Below.refl _ _
  go_enter Try.func65, Try.ntmps65
  obtain ⟨w1, hw1⟩ : ∃ W, W = w.alloc (.cells #[.slice ub un uc] 49) := ⟨_, rfl⟩
  have z1 : Below w.heap.size w w1 := by rw [hw1]; exact (Below.refl _ _).alloc (Nat.le_refl _) _
  have s1 : w1.heap.size = w.heap.size + 1 := by rw [hw1]; simp
  have hb1 := on hb0 z1
  have b_0 : w1.cell? ⟨w.heap.size, 0, none⟩ = some (.slice ub un uc) := by rw [hw1]; exact box_cell (Below.refl _ _) rfl
  have b_f0 : w1.frozen? ⟨w.heap.size, 0, none⟩ = false := by rw [hw1]; exact box_frozen (Below.refl _ _)
  have raw1_b_0 := b_0
  rw [hw1] at raw1_b_0
  obtain ⟨w2, hw2⟩ : ∃ W, W = w1.alloc (.cells #[.string ⟨#[]⟩, .int .i64 0, .slice none 0 0] 91) := ⟨_, rfl⟩
  have z2 : Below w1.heap.size w1 w2 := by rw [hw2]; exact (Below.refl _ _).alloc (Nat.le_refl _) _
  have s2 : w2.heap.size = w1.heap.size + 1 := by rw [hw2]; simp
  have hb2 := on hb1 z2
  replace b_0 := (z2.cell (p := ⟨w.heap.size, 0, none⟩) (by simp only []; omega)).trans b_0
  replace b_f0 := (z2.frozen (p := ⟨w.heap.size, 0, none⟩) (by simp only []; omega)).trans b_f0
  have e2 : w1.heap.size = w.heap.size + 1 := by omega
  have r_0 : w2.cell? ⟨w1.heap.size, 0, none⟩ = some (.string ⟨#[]⟩) := by rw [hw2]; exact box_cell (Below.refl _ _) rfl
  have r_1 : w2.cell? ⟨w1.heap.size, 1, none⟩ = some (.int .i64 0) := by rw [hw2]; exact box_cell (Below.refl _ _) rfl
  have r_2 : w2.cell? ⟨w1.heap.size, 2, none⟩ = some (.slice none 0 0) := by rw [hw2]; exact box_cell (Below.refl _ _) rfl
  rw [e2] at r_0 r_1 r_2
  have r_f0 : w2.frozen? ⟨w1.heap.size, 0, none⟩ = false := by rw [hw2]; exact box_frozen (Below.refl _ _)
  have r_f1 : w2.frozen? ⟨w1.heap.size, 1, none⟩ = false := by rw [hw2]; exact box_frozen (Below.refl _ _)
  have r_f2 : w2.frozen? ⟨w1.heap.size, 2, none⟩ = false := by rw [hw2]; exact box_frozen (Below.refl _ _)
  rw [e2] at r_f0 r_f1 r_f2
  have raw2_b_0 := b_0
  have raw2_r_0 := r_0
  have raw2_r_1 := r_1
  have raw2_r_2 := r_2
  rw [hw2, hw1] at raw2_b_0 raw2_r_0 raw2_r_1 raw2_r_2
  go_wp2_with fail
  rw [← hw1]
  rw [← hw2]
  clear hw2 hw1
  clear raw1_b_0 raw2_b_0 raw2_r_0 raw2_r_1 raw2_r_2
  go_loopw [6] (fun k wr => ∃ j : Nat, j ≤ un ∧ k = .int .i64 j ∧ Hid (idxFrom name 0 db = idxFrom name j (db.drop j)) ∧ Below w2.heap.size w2 wr) (fun k _ => un - (intOf k).toNat)
  case atStart => exact ⟨0, Nat.zero_le _, rfl, HE0.out, Below.refl _ _⟩
  case round =>
    obtain ⟨j, hj, rfl, hE, hdr⟩ := hrel
    obtain ⟨wo, rfl⟩ : ∃ W, W = wr := ⟨_, rfl⟩
    have hlc := hdr
    have s3 := hdr.size
    have hb3 := on hb2 hdr
    replace b_0 := (hdr.cell (p := ⟨w.heap.size, 0, none⟩) (by simp only []; omega)).trans b_0
    replace b_f0 := (hdr.frozen (p := ⟨w.heap.size, 0, none⟩) (by simp only []; omega)).trans b_f0
    replace r_0 := (hdr.cell (p := ⟨w.heap.size + 1, 0, none⟩) (by simp only []; omega)).trans r_0
    replace r_1 := (hdr.cell (p := ⟨w.heap.size + 1, 1, none⟩) (by simp only []; omega)).trans r_1
    replace r_2 := (hdr.cell (p := ⟨w.heap.size + 1, 2, none⟩) (by simp only []; omega)).trans r_2
    replace r_f0 := (hdr.frozen (p := ⟨w.heap.size + 1, 0, none⟩) (by simp only []; omega)).trans r_f0
    replace r_f1 := (hdr.frozen (p := ⟨w.heap.size + 1, 1, none⟩) (by simp only []; omega)).trans r_f1
    replace r_f2 := (hdr.frozen (p := ⟨w.heap.size + 1, 2, none⟩) (by simp only []; omega)).trans r_f2
    by_cases hlt : j < un
    · go_wp2_with fail
      refine (HV.out _ hb3).mono ?_
      rintro e w9 ⟨rfl, z9⟩
      have s4 := z9.size
      have hb4 := on hb3 z9
      replace b_0 := (z9.cell (p := ⟨w.heap.size, 0, none⟩) (by simp only []; omega)).trans b_0
      replace b_f0 := (z9.frozen (p := ⟨w.heap.size, 0, none⟩) (by simp only []; omega)).trans b_f0
      replace r_0 := (z9.cell (p := ⟨w.heap.size + 1, 0, none⟩) (by simp only []; omega)).trans r_0
      replace r_1 := (z9.cell (p := ⟨w.heap.size + 1, 1, none⟩) (by simp only []; omega)).trans r_1
      replace r_2 := (z9.cell (p := ⟨w.heap.size + 1, 2, none⟩) (by simp only []; omega)).trans r_2
      replace r_f0 := (z9.frozen (p := ⟨w.heap.size + 1, 0, none⟩) (by simp only []; omega)).trans r_f0
      replace r_f1 := (z9.frozen (p := ⟨w.heap.size + 1, 1, none⟩) (by simp only []; omega)).trans r_f1
      replace r_f2 := (z9.frozen (p := ⟨w.heap.size + 1, 2, none⟩) (by simp only []; omega)).trans r_f2
      replace hlc := on hlc z9
      obtain ⟨b1, o1, cs, t', rfl, hx, hr, hc⟩ := t1.at hlt
      by_cases hne : t'.1 = name
      · have h8 := hE.out.trans (idxFrom_yes hx.out hne)
        rw [HI.out] at h8
        obtain rfl : k = j := by omega
        obtain rfl : t' = t := by have h9 := hx.out; rw [HK.out] at h9; exact (Option.some.inj h9).symm
        have hcp := fun W (hW : Below w.heap.size w W) => l4Copy_any cs t' W (rT.mono hr hW) (by omega)
        have hq9 : (t'.1.toList == name.toList) = true := by rw [hne]; simp
        obtain ⟨s, i, rows⟩ := t'
        obtain ⟨tb, tn, tc, rfl, hs, hi, g2⟩ := rT_open hr
        simp only at hs hi g2 hcp hq9
        have HP := Lib.hid hcp
        have e_lt : b1 < w.heap.size := cell_lt (hc 0 _ rfl)
        have e_0 : w9.cell? ⟨b1, o1 + k * 3, none⟩ = some (.string s) := (hb4.cell (p := ⟨b1, o1 + k * 3, none⟩) e_lt).trans (by have h9 := hc 0 _ rfl; rw [← Nat.add_assoc] at h9; exact h9)
        have e_1 : w9.cell? ⟨b1, o1 + k * 3 + 1, none⟩ = some (.int .i64 i) := (hb4.cell (p := ⟨b1, o1 + k * 3 + 1, none⟩) e_lt).trans (by have h9 := hc 1 _ rfl; rw [← Nat.add_assoc] at h9; exact h9)
        have e_2 : w9.cell? ⟨b1, o1 + k * 3 + 2, none⟩ = some (.slice tb tn tc) := (hb4.cell (p := ⟨b1, o1 + k * 3 + 2, none⟩) e_lt).trans (by have h9 := hc 2 _ rfl; rw [← Nat.add_assoc] at h9; exact h9)
        clear hcp hE hx hr hc g2 t1 hs hi hne h8
        go_wp2_with fail
        refine (HP.out _ hb4).mono ?_
        rintro e w11 ⟨ds, rfl, ho, z11⟩
        obtain ⟨vb, vn, vc, rfl⟩ := oT_form ho
        simp only at ho
        have s5 := z11.size
        have hb5 := on hb4 z11
        replace b_0 := (z11.cell (p := ⟨w.heap.size, 0, none⟩) (by simp only []; omega)).trans b_0
        replace b_f0 := (z11.frozen (p := ⟨w.heap.size, 0, none⟩) (by simp only []; omega)).trans b_f0
        replace r_0 := (z11.cell (p := ⟨w.heap.size + 1, 0, none⟩) (by simp only []; omega)).trans r_0
        replace r_1 := (z11.cell (p := ⟨w.heap.size + 1, 1, none⟩) (by simp only []; omega)).trans r_1
        replace r_2 := (z11.cell (p := ⟨w.heap.size + 1, 2, none⟩) (by simp only []; omega)).trans r_2
        replace r_f0 := (z11.frozen (p := ⟨w.heap.size + 1, 0, none⟩) (by simp only []; omega)).trans r_f0
        replace r_f1 := (z11.frozen (p := ⟨w.heap.size + 1, 1, none⟩) (by simp only []; omega)).trans r_f1
        replace r_f2 := (z11.frozen (p := ⟨w.heap.size + 1, 2, none⟩) (by simp only []; omega)).trans r_f2
        replace hlc := on hlc z11
        replace e_0 := (z11.cell (p := ⟨b1, o1 + k * 3, none⟩) (by simp only []; omega)).trans e_0
        replace e_1 := (z11.cell (p := ⟨b1, o1 + k * 3 + 1, none⟩) (by simp only []; omega)).trans e_1
        replace e_2 := (z11.cell (p := ⟨b1, o1 + k * 3 + 2, none⟩) (by simp only []; omega)).trans e_2
        go_wp2_with fail
        refine bodyPost_ret (v := .tuple #[.agg #[.string s, .int .i64 i, .slice vb vn vc], .bool true]) (by simp [results, Try.results65, go_sem, r_0, r_1, r_2, r_f0, r_f1, r_f2]) rfl ⟨_, rfl, ?_, ?_⟩
        · refine Own.mono (lo := w9.heap.size) (hi := w11.heap.size) ?_ (by omega) (by simp [World.setCell])
          repeat (refine Own.setOut ?_ rfl (by simp only []; omega))
          exact ho
        · repeat (refine Below.setCell ?_ (by simp only []; omega) _)
          exact hb5
      · have HE : Hid (idxFrom name 0 db = idxFrom name (j + 1) (db.drop (j + 1))) := Lib.hid (hE.out.trans (idxFrom_no hx.out hne))
        have hq9 := bytes_ne hne
        obtain ⟨s, i, rows⟩ := t'
        obtain ⟨tb, tn, tc, rfl, hs, hi, g2⟩ := rT_open hr
        simp only at hs hi g2 hq9
        have e_lt : b1 < w.heap.size := cell_lt (hc 0 _ rfl)
        have e_0 : w9.cell? ⟨b1, o1 + j * 3, none⟩ = some (.string s) := (hb4.cell (p := ⟨b1, o1 + j * 3, none⟩) e_lt).trans (by have h9 := hc 0 _ rfl; rw [← Nat.add_assoc] at h9; exact h9)
        have e_1 : w9.cell? ⟨b1, o1 + j * 3 + 1, none⟩ = some (.int .i64 i) := (hb4.cell (p := ⟨b1, o1 + j * 3 + 1, none⟩) e_lt).trans (by have h9 := hc 1 _ rfl; rw [← Nat.add_assoc] at h9; exact h9)
        have e_2 : w9.cell? ⟨b1, o1 + j * 3 + 2, none⟩ = some (.slice tb tn tc) := (hb4.cell (p := ⟨b1, o1 + j * 3 + 2, none⟩) e_lt).trans (by have h9 := hc 2 _ rfl; rw [← Nat.add_assoc] at h9; exact h9)
        clear hE hx hr hc g2 t1 hs hi hne
        go_wp2_with fail
        go_roundw
        case rel => exact ⟨j + 1, by omega, by go_num, HE.out, hlc⟩
        case measure => simp [intOf]; omega
    · have h8 := hE.out.trans (idxFrom_end (by have := HL.out; omega))
      rw [HI.out] at h8
      omega

end Go.Proofs.Ythhbmbkecaffeaa

/- Contracts: the variables of a mask, by the program; shared variables. -/
namespace Go.Proofs.Ythhbmbkecaffeaa
open Go.RowKit
set_option linter.unusedVariables false
set_option linter.unusedSimpArgs false
set_option synthInstance.maxSize 2000
set_option synthInstance.maxHeartbeats 400000

theorem own_empty' {B : Nat} {W : World} {g : Nat} (hB : B ≤ W.heap.size) (hg : W.heap.size = g) : OwnInts B (W.alloc (.cells #[] 3)) (.slice (some ⟨g, 0, none⟩) 0 0) 0 [] := by
  subst hg; exact own_empty hB

theorem wpList_app1g {B : Nat} {w0 W : World} {ops : Array Oper} {rest : List Oper} {o : Oper} {a : Act} {Q : Exit → Act → World → Prop}
    (s x : Operand) (v : Value) (n g : Nat) (xs : List Int) (u : Int)
    (hown : OwnInts B W v n xs) (hb : Below B w0 W) (hB : B ≤ W.heap.size) (hu : I64 u) (hn : n ≤ 1000000000000) (hg : W.heap.size = g)
    (hgd : o.guard = none) (ho : o.op = .call { callee := .builtin .append, args := #[s, x], argTypes := #[35, 35] })
    (hs : a.eval s = v) (hx : a.eval x = .slice (some ⟨g, 0, none⟩) 1 1)
    (h : ∀ v' w', OwnInts B w' v' (n + 1) (xs ++ [u]) → Below B w0 w' → B ≤ w'.heap.size → wpList Try.prog ops Q rest (a.put o.dst v') w') :
    wpList Try.prog ops Q (o :: rest) a (W.alloc (.cells #[.int .i64 u] 3)) := by
  subst hg
  exact wpList_app1 s x v n xs u hown hb hB hu hn hgd ho hs hx h

set_option maxHeartbeats 2000000 in
theorem variables_any (cs : List Value) (x : DQ) (K n : Nat) (w : World) (h : rQ.rep w cs x) (hq : QOk x n) (hK : K < 16) :
    Calls Try.prog 126 #[.agg cs.toArray, .int .i64 K] w fun e w' => ∃ u, e = .returned u ∧ Own oI w.heap.size w'.heap.size w' [u] (varsOf x K) ∧ Below w.heap.size w w' := by
  obtain ⟨ub, un, uc, rfl, hi, g1⟩ := rQ_open h
  clear h hi
  obtain ⟨i, xs⟩ := x
  simp only at g1
  have t0 := rS_sl g1
  have hl := t0.len
  have hn4 := hq.le
  have hl4 := hq.len
  have hcnt := hq.cnt
  simp only at hl4 hcnt
  subst hcnt
  have hun : un ≤ 4 := by omega
  have HQ := Lib.hid hq
  obtain ⟨M, hM⟩ : ∃ M, M = bitsOf ((n : Int), xs) K := ⟨_, rfl⟩
  have HV := Lib.hid (show bitsTo M n = varsOf ((n : Int), xs) K by rw [hq.varsOf K, hM])
  have HS := Lib.hid (show ∀ v, bitAt M v = someFrom K v 0 (xs.drop 0) by intro v; rw [hM]; exact hq.some K v)
  clear hq hl4 hM
  have hb0 : Below w.heap.size w w := Below.refl _ _
  go_enter Try.func126, Try.ntmps126
  obtain ⟨w1, hw1⟩ : ∃ W, W = w.alloc (.cells #[.int .i64 n, .slice ub un uc] 29) := ⟨_, rfl⟩
  have z1 : Below w.heap.size w w1 := by rw [hw1]; exact (Below.refl _ _).alloc (Nat.le_refl _) _
  have s1 : w1.heap.size = w.heap.size + 1 := by rw [hw1]; simp
  have hb1 := on hb0 z1
  have b_0 : w1.cell? ⟨w.heap.size, 0, none⟩ = some (.int .i64 n) := by rw [hw1]; exact box_cell (Below.refl _ _) rfl
  have b_1 : w1.cell? ⟨w.heap.size, 1, none⟩ = some (.slice ub un uc) := by rw [hw1]; exact box_cell (Below.refl _ _) rfl
  have raw1_b_0 := b_0
  have raw1_b_1 := b_1
  rw [hw1] at raw1_b_0 raw1_b_1
  go_wp2_with fail
  rw [← hw1]
  clear hw1
  clear raw1_b_0 raw1_b_1
  go_loopw [5, 6] (fun s k wr => ∃ j q : Nat, j ≤ n ∧ k = .int .i64 j ∧ OwnInts w1.heap.size wr s q (bitsTo M j) ∧ Below w1.heap.size w1 wr) (fun _ k _ => n - (intOf k).toNat)
  case atStart => exact ⟨0, 0, Nat.zero_le _, rfl, own_empty' (Nat.le_refl _) (by omega), (Below.refl _ _).alloc (Nat.le_refl _) _⟩
  case round =>
    obtain ⟨j, q, hj, rfl, hown, hdr⟩ := hrel
    obtain ⟨wo, rfl⟩ : ∃ W, W = wr := ⟨_, rfl⟩
    have hlc := hdr
    have s2 := hdr.size
    have hb2 := on hb1 hdr
    replace b_0 := (hdr.cell (p := ⟨w.heap.size, 0, none⟩) (by simp only []; omega)).trans b_0
    replace b_1 := (hdr.cell (p := ⟨w.heap.size, 1, none⟩) (by simp only []; omega)).trans b_1
    have hq4 : q ≤ 4 := by have := hown.len; have := bitsTo_len M j; omega
    by_cases hlt : j < n
    · go_wp2_with fail
      obtain ⟨a, cap, rfl, hqs, hqa⟩ := own_form hown.row
      go_loopw [5, 19] (fun s k wr => ∃ i' : Nat, i' ≤ un ∧ k = .int .i64 i' ∧ s = .slice a q cap ∧ Hid (bitAt M j = someFrom K j i' (xs.drop i')) ∧ Below wo.heap.size wo wr) (fun _ k _ => un - (intOf k).toNat)
      case atStart => exact ⟨0, Nat.zero_le _, rfl, rfl, HS.out j, Below.refl _ _⟩
      case round =>
        obtain ⟨i', hi, rfl, rfl, hE, hdr⟩ := hrel
        have hld := hdr
        have s3 := hdr.size
        have hb3 := on hb2 hdr
        replace b_0 := (hdr.cell (p := ⟨w.heap.size, 0, none⟩) (by simp only []; omega)).trans b_0
        replace b_1 := (hdr.cell (p := ⟨w.heap.size, 1, none⟩) (by simp only []; omega)).trans b_1
        replace hlc := on hlc hdr
        replace hown := hown.below hdr
        by_cases hlv : i' < un
        · obtain ⟨b1, o1, cs, x, rfl, hx, hr, hc⟩ := t0.at hlv
          obtain ⟨s, vs⟩ := x
          obtain ⟨vb, vn, vc, rfl, hs, g2⟩ := rA_open hr
          simp only at hs g2
          have e_lt : b1 < w.heap.size := cell_lt (hc 0 _ rfl)
          have e_0 : wr.cell? ⟨b1, o1 + i' * 2, none⟩ = some (.string s) := (hb3.cell (p := ⟨b1, o1 + i' * 2, none⟩) e_lt).trans (by have h9 := hc 0 _ rfl; rw [← Nat.add_assoc] at h9; exact h9)
          have e_1 : wr.cell? ⟨b1, o1 + i' * 2 + 1, none⟩ = some (.slice vb vn vc) := (hb3.cell (p := ⟨b1, o1 + i' * 2 + 1, none⟩) e_lt).trans (by have h9 := hc 1 _ rfl; rw [← Nat.add_assoc] at h9; exact h9)
          have HA := Lib.hid (hE.out.trans (someFrom_at hx.out))
          clear hc t0 hr hl hx hE HV HS
          simp only at HA
          obtain ⟨w4, hw4⟩ : ∃ W, W = wr.alloc (.cells #[.string s, .slice vb vn vc] 80) := ⟨_, rfl⟩
          have z4 : Below wr.heap.size wr w4 := by rw [hw4]; exact (Below.refl _ _).alloc (Nat.le_refl _) _
          have s4 : w4.heap.size = wr.heap.size + 1 := by rw [hw4]; simp
          have hb4 := on hb3 z4
          have old4_b_0 := b_0
          have old4_b_1 := b_1
          have old4_e_0 := e_0
          have old4_e_1 := e_1
          replace b_0 := (z4.cell (p := ⟨w.heap.size, 0, none⟩) (by simp only []; omega)).trans b_0
          replace b_1 := (z4.cell (p := ⟨w.heap.size, 1, none⟩) (by simp only []; omega)).trans b_1
          replace hlc := on hlc z4
          replace hown := hown.below z4
          replace hld := on hld z4
          replace e_0 := (z4.cell (p := ⟨b1, o1 + i' * 2, none⟩) (by simp only []; omega)).trans e_0
          replace e_1 := (z4.cell (p := ⟨b1, o1 + i' * 2 + 1, none⟩) (by simp only []; omega)).trans e_1
          have p_0 : w4.cell? ⟨wr.heap.size, 0, none⟩ = some (.string s) := by rw [hw4]; exact box_cell (Below.refl _ _) rfl
          have p_1 : w4.cell? ⟨wr.heap.size, 1, none⟩ = some (.slice vb vn vc) := by rw [hw4]; exact box_cell (Below.refl _ _) rfl
          have raw4_b_0 := b_0
          have raw4_b_1 := b_1
          have raw4_e_0 := e_0
          have raw4_e_1 := e_1
          have raw4_p_0 := p_0
          have raw4_p_1 := p_1
          rw [hw4] at raw4_b_0 raw4_b_1 raw4_e_0 raw4_e_1 raw4_p_0 raw4_p_1
          have hbt := bit_test K i' (by omega)
          have hlt2 : (j : Int) < n := by omega
          cases hb : bitAt K i' with
          | true =>
            rw [hb] at HA hbt
            have i0 := (rI_ints g2).below hb4
            clear hb
            go_wp2_with fail
            rw [← hw4]
            clear hw4
            clear old4_b_0 old4_b_1 old4_e_0 old4_e_1 raw4_b_0 raw4_b_1 raw4_e_0 raw4_e_1 raw4_p_0 raw4_p_1
            refine (contains_any _ _ _ _ _ _ i0).mono ?_
            rintro e w' ⟨rfl, rfl⟩
            obtain ⟨t, ht⟩ : ∃ t, t = has vs (j : Int) := ⟨_, rfl⟩
            rw [← ht] at HA ⊢
            clear ht i0
            cases t with
            | true =>
              have HB := Lib.hid (bitsTo_yes (show bitAt M j = true by rw [HA.out]; simp))
              have hsz := hlc.size
              go_wp2_with ((at_builtin; refine wpList_app1g _ _ _ _ _ _ _ hown hlc hsz ⟨by omega, by omega⟩ (by omega) (by omega) rfl rfl rfl rfl ?_; intro v' w9 hown' hb' hsz'))
              rw [← HB.out] at hown'
              go_roundw
              case rel => exact ⟨j + 1, q + 1, by omega, by go_num, hown', hb'⟩
              case measure => simp [intOf]; omega
            | false =>
              have HE := Lib.hid (show bitAt M j = someFrom K j (i' + 1) (xs.drop (i' + 1)) by rw [HA.out]; simp)
              go_wp2_with fail
              go_roundw
              case rel => exact ⟨i' + 1, by omega, by go_num, rfl, HE.out, hld⟩
              case measure => simp [intOf]; omega
          | false =>
            rw [hb] at HA hbt
            have HE := Lib.hid (show bitAt M j = someFrom K j (i' + 1) (xs.drop (i' + 1)) by rw [HA.out]; simp)
            clear hb HA
            go_wp2_with fail
            rw [← hw4]
            clear hw4
            clear old4_b_0 old4_b_1 old4_e_0 old4_e_1 raw4_b_0 raw4_b_1 raw4_e_0 raw4_e_1 raw4_p_0 raw4_p_1
            go_roundw
            case rel => exact ⟨i' + 1, by omega, by go_num, rfl, HE.out, hld⟩
            case measure => simp [intOf]; omega
        · rw [← bitsTo_no (hE.out.trans (someFrom_end (by omega)))] at hown
          have HO := Lib.hid hown
          clear t0 hl hE hown
          go_wp2_with fail
          go_roundw
          case rel => exact ⟨j + 1, q, by omega, by go_num, HO.out, hlc⟩
          case measure => simp [intOf]; omega
    · obtain rfl : j = n := by omega
      obtain ⟨a, cap, rfl, _⟩ := own_form hown.row
      rw [HV.out] at hown
      have HO := Lib.hid (show Own oI w.heap.size wo.heap.size wo [.slice a q cap] _ from hown.own.mono (by omega) (Nat.le_refl _))
      clear t0 hl hown
      go_wp2_with fail
      go_ret
      exact ⟨_, rfl, HO.out, hb2⟩

theorem maskVars_cnt (q : DQ) (k : Int) : cnt_I (maskVars q k) ≤ 4 := maskVars_len q k

set_option maxHeartbeats 1000000 in
theorem both_any (u v : Value) (xs ys : List Int) (w : World) (h : rI.rep w [u] xs) (h' : rI.rep w [v] ys) (hn : xs.length ≤ 1000000) :
    Calls Try.prog 127 #[u, v] w fun e w' => ∃ u, e = .returned u ∧ Own oI w.heap.size w'.heap.size w' [u] (both xs ys) ∧ Below w.heap.size w w' := by
  obtain ⟨a, cap, rfl, _, _, hi⟩ := rI_open h
  obtain ⟨a', cap', rfl, _, _, hi'⟩ := rI_open h'
  clear h h'
  obtain ⟨n, hl⟩ : ∃ n, xs.length = n := ⟨_, rfl⟩
  rw [hl] at hi hn ⊢
  go_enter Try.func127, Try.ntmps127
  go_wp2
  go_loopw [5, 11] (fun v i wr => ∃ (j : Nat), j ≤ n ∧ i = .int .i64 j ∧ ∃ q, OwnInts w.heap.size wr v q (both (xs.take j) ys) ∧ Below w.heap.size w wr) (fun _ i _ => n - (intOf i).toNat)
  case atStart => exact ⟨0, Nat.zero_le _, rfl, 0, by rw [List.take_zero]; exact own_empty (Nat.le_refl _), (Below.refl _ _).alloc (Nat.le_refl _) _⟩
  case round =>
    obtain ⟨j, hj, rfl, q, hown, hbl⟩ := hrel
    have hsz := hbl.size
    replace hi := hi.below hbl
    replace hi' := hi'.below hbl
    have hq : q ≤ 1000000 := by have := hown.len; have := both_len (xs.take j) ys; have : (xs.take j).length ≤ j := List.length_take_le _ _; omega
    by_cases hlt : j < n
    · obtain ⟨b1, off, x, rfl, hc, hx, hx1, hx2⟩ := hi.get hlt
      have hcall := contains_any _ _ cap' _ x _ hi'
      obtain ⟨t, ht⟩ : ∃ t, t = has ys x := ⟨_, rfl⟩
      rw [← ht] at hcall
      have HC := Lib.hid hcall
      clear hcall
      cases t with
      | true =>
        have HB := Lib.hid (both_yes (show j < xs.length by omega) hx.out ht.symm)
        clear ht hi hl
        go_wp2_with (first
          | (go_at_call 83; refine (HC.out).mono ?_; rintro e w' ⟨rfl, rfl⟩)
          | (at_builtin; refine wpList_app1 _ _ _ _ _ _ hown hbl hsz ⟨by omega, by omega⟩ (by omega) rfl rfl rfl rfl ?_; intro v' w1 hown' hb' hsz'))
        rw [← HB.out] at hown'
        go_roundw
        case rel => exact ⟨j + 1, by omega, by go_num, q + 1, hown', hb'⟩
        case measure => simp [intOf]; omega
      | false =>
        rw [← both_no (show j < xs.length by omega) hx.out ht.symm] at hown
        have HO := Lib.hid hown
        clear ht hi hl hown
        go_wp2_with (first
          | (go_at_call 83; refine (HC.out).mono ?_; rintro e w' ⟨rfl, rfl⟩))
        go_roundw
        case rel => exact ⟨j + 1, by omega, by go_num, q, HO.out, hbl⟩
        case measure => simp [intOf]; omega
    · obtain rfl : j = n := by omega
      obtain ⟨a', cap2, rfl, _⟩ := own_form hown.row
      rw [both_end (by omega)] at hown
      have HO := Lib.hid hown
      clear hown hi hi' hl
      go_wp2
      go_ret
      exact ⟨_, rfl, HO.out.own, hbl⟩

end Go.Proofs.Ythhbmbkecaffeaa

/- Contracts: tables looked up (4): one contract a side. -/
namespace Go.Proofs.Ythhbmbkecaffeaa
open Go.RowKit Go.Sort
set_option linter.unusedVariables false
set_option linter.unusedSimpArgs false
set_option synthInstance.maxSize 2000
set_option synthInstance.maxHeartbeats 400000

/-- The table that is handed back. -/
def lookT (o : Option DT) : DT := o.getD (⟨#[]⟩, 0, [])
theorem lookT_ar {db : DDb} {name : ByteArray} : 0 ≤ (lookT (look db name)).2.1 ∧ (lookT (look db name)).2.1 ≤ 3 := by
  cases h : look db name with
  | none => simp [lookT]
  | some t => have := (look_ok h).ar; simp only [lookT, Option.getD_some]; omega
theorem own_noT (lo hi : Nat) (w : World) : Own oT lo hi w [.string ⟨#[]⟩, .int .i64 0, .slice none 0 0] (⟨#[]⟩, 0, []) :=
  oT_mk (x := (⟨#[]⟩, 0, [])) (by decide) (show I64 0 from by unfold I64; omega) (l2 := lo) (m2 := hi) (Acc.nil (lo := lo) (S := lo) (hi := hi) |>.own (Nat.le_refl _) (Nat.le_refl _) (Nat.le_refl _)) (Nat.le_refl _) (Nat.le_refl _)

theorem lookI_any (cs : List Value) (db : DDb) (name : ByteArray) (w : World) (h : rDb.rep w cs db) :
    Calls Try.prog 68 #[.agg cs.toArray, .string name] w fun e w' => ∃ vb vn vc, e = .returned (.tuple #[.agg #[.string (lookT (look db name)).1, .int .i64 (lookT (look db name)).2.1, .slice vb vn vc], .bool (look db name).isSome]) ∧ Own oT w.heap.size w'.heap.size w' [.string (lookT (look db name)).1, .int .i64 (lookT (look db name)).2.1, .slice vb vn vc] (lookT (look db name)) ∧ Below w.heap.size w w' := by
  cases hL : look db name with
  | none =>
    refine (lookI_none cs db name w h hL).mono ?_
    rintro e w1 ⟨rfl, z⟩
    exact ⟨none, 0, 0, rfl, own_noT _ _ _, z⟩
  | some t =>
    refine (lookI_some cs db name t w h hL).mono ?_
    rintro e w1 ⟨ds, rfl, ho, z⟩
    obtain ⟨vb, vn, vc, rfl⟩ := oT_form ho
    exact ⟨vb, vn, vc, rfl, ho, z⟩

theorem lookS_any (cs : List Value) (db : DDb) (name : ByteArray) (w : World) (h : rDb.rep w cs db) :
    Calls Try.prog 65 #[.agg cs.toArray, .string name] w fun e w' => ∃ vb vn vc, e = .returned (.tuple #[.agg #[.string (lookT (look db name)).1, .int .i64 (lookT (look db name)).2.1, .slice vb vn vc], .bool (look db name).isSome]) ∧ Own oT w.heap.size w'.heap.size w' [.string (lookT (look db name)).1, .int .i64 (lookT (look db name)).2.1, .slice vb vn vc] (lookT (look db name)) ∧ Below w.heap.size w w' := by
  cases hL : look db name with
  | none =>
    refine (lookS_none cs db name w h hL).mono ?_
    rintro e w1 ⟨rfl, z⟩
    exact ⟨none, 0, 0, rfl, own_noT _ _ _, z⟩
  | some t =>
    refine (lookS_some cs db name t w h hL).mono ?_
    rintro e w1 ⟨ds, rfl, ho, z⟩
    obtain ⟨vb, vn, vc, rfl⟩ := oT_form ho
    exact ⟨vb, vn, vc, rfl, ho, z⟩

end Go.Proofs.Ythhbmbkecaffeaa

/- Contracts: columns selected from a row. -/
namespace Go.Proofs.Ythhbmbkecaffeaa
open Go.RowKit
set_option linter.unusedVariables false
set_option linter.unusedSimpArgs false
set_option synthInstance.maxSize 2000
set_option synthInstance.maxHeartbeats 400000

/-- Whether columns are columns of a row. -/
def selOk (row cols : List Int) : Bool := cols.all (fun c => betw c 0 ((row.length : Int) - 1))
/-- The values of a row at columns. -/
def selAt (row cols : List Int) : List Int := cols.map (fun c => row.getD c.toNat 0)
def sel (row cols : List Int) : List Int := if selOk row cols then selAt row cols else []
theorem selAt_len (row cols : List Int) : (selAt row cols).length = cols.length := by simp [selAt]
theorem sel_len (row cols : List Int) : (sel row cols).length ≤ cols.length := by
  unfold sel; split <;> simp [selAt]
theorem selAt_step {row cols : List Int} {j : Nat} {c : Nat} {x : Int} (hj : j < cols.length) (hc : cols.getD j 0 = (c : Int)) (hx : row.getD c 0 = x) : selAt row (cols.take (j + 1)) = selAt row (cols.take j) ++ [x] := by
  rw [take_snoc cols j hj, hc]; simp only [selAt, List.map_append, List.map_cons, List.map_nil, Int.toNat_natCast, hx]
theorem selOk_no {row cols : List Int} {j : Nat} {x : Int} (hj : j < cols.length) (hc : cols.getD j 0 = x) (hb : betw x 0 ((row.length : Int) - 1) = false) : selOk row cols = false := by
  rw [selOk, List.all_eq_false]
  refine ⟨x, ?_, by rw [hb]; simp⟩
  rw [← hc, List.getD_eq_getElem?_getD, List.getElem?_eq_getElem hj]
  exact List.getElem_mem hj
theorem selOk_at {row cols : List Int} {j : Nat} {x : Int} (hj : j < cols.length) (hc : cols.getD j 0 = x) : selOk row (cols.drop j) = (betw x 0 ((row.length : Int) - 1) && selOk row (cols.drop (j + 1))) := by
  rw [drop_cons cols j hj, hc]; rfl
theorem selOk_end {row cols : List Int} {j : Nat} (hj : cols.length ≤ j) : selOk row (cols.drop j) = true := by
  rw [List.drop_eq_nil_of_le hj]; rfl
theorem I64.nat {x : Int} (h : betw x 0 9223372036854775806 = true) : ∃ c : Nat, x = (c : Int) := by
  refine ⟨x.toNat, ?_⟩
  simp only [betw, Bool.and_eq_true, decide_eq_true_eq] at h; omega
theorem betw_nat {x m : Int} (h : betw x 0 m = true) : ∃ c : Nat, x = (c : Int) ∧ (c : Int) ≤ m := by
  simp only [betw, Bool.and_eq_true, decide_eq_true_eq] at h
  exact ⟨x.toNat, by omega, by omega⟩

set_option maxHeartbeats 2000000 in
theorem sel_impl (a b : Option Addr) (n m cap cap' : Nat) (row cols : List Int) (w : World) (h : Ints w a n row) (h' : Ints w b m cols) (hm : m ≤ 1048576) :
    Calls Try.prog 86 #[.slice a n cap, .slice b m cap'] w fun e w' => ∃ vb vn vc, e = .returned (.tuple #[.slice vb vn vc, .bool (selOk row cols)]) ∧ Own oI w.heap.size w'.heap.size w' [.slice vb vn vc] (sel row cols) ∧ Below w.heap.size w w' := by
  have hl := h.len
  have hl' := h'.len
  have hn := h.small
  have hn' := h'.small
  have HV : Hid (selOk row cols = selOk row (cols.drop 0)) := Lib.hid (by simp)
  have hwn : IntKind.i64.wrap ((n : Int) - 1) = (n : Int) - 1 := IntWalk.i64_in _ (by omega)
  have hb0 : Below w.heap.size w w := Below.refl _ _
  go_enter Try.func86, Try.ntmps86
  obtain ⟨w1, hw1⟩ : ∃ W, W = w.alloc (.cells #[] 3) := ⟨_, rfl⟩
  have z1 : Below w.heap.size w w1 := by rw [hw1]; exact (Below.refl _ _).alloc (Nat.le_refl _) _
  have s1 : w1.heap.size = w.heap.size + 1 := by rw [hw1]; simp
  have hb1 := on hb0 z1
  have ho : ∀ S, Acc 3 O.int w.heap.size S w1.heap.size w1 (.slice (some ⟨w.heap.size, 0, none⟩) 0 0) [] := fun S => by rw [hw1]; exact Acc.empty (by omega) (by first | (simp; done) | (simp; omega))
  go_wp2_with fail
  rw [← hw1]
  clear hw1
  go_loopw [6, 12] (fun v i wr => ∃ j : Nat, j ≤ m ∧ i = .int .i64 j ∧ Hid (selOk row cols = selOk row (cols.drop j)) ∧ Acc 3 O.int w.heap.size w1.heap.size wr.heap.size wr v (selAt row (cols.take j)) ∧ Turn w.heap.size (w.heap.size + 1) w1 wr) (fun _ i _ => m - (intOf i).toNat)
  case atStart => exact ⟨0, Nat.zero_le _, rfl, HV.out, by rw [List.take_zero]; exact (ho _).wide (Nat.le_refl _) (by omega), turn_refl _ _ _⟩
  case round =>
    obtain ⟨j, hj, rfl, hE, hacc, hdr⟩ := hrel
    have hlc := hdr
    have s2 := hdr.size
    have hb2 := hb1.trans ((hdr.below (by omega)).mono (by omega))
    have hbl : (selAt row (cols.take j)).length ≤ 1048576 := by rw [selAt_len]; have h2 : (cols.take j).length ≤ j := List.length_take_le _ _; omega
    by_cases hlt : j < m
    · obtain ⟨b1, o1, x, rfl, hc, hx, _, _⟩ := h'.get hlt
      have c0_lt : b1 < w.heap.size := cell_lt hc
      have c0 : wr.cell? ⟨b1, o1 + j, none⟩ = some (.int .i64 x) := (hb2.cell (p := ⟨b1, o1 + j, none⟩) c0_lt).trans hc
      have hcall := fun W => within_any x 0 ((n : Int) - 1) W
      by_cases hb : betw x 0 ((n : Int) - 1) = true
      case neg =>
        replace hb : betw x 0 ((n : Int) - 1) = false := by simpa using hb
        have HE := Lib.hid (selOk_no (row := row) (by omega) hx.out (by rw [hl]; exact hb))
        rw [hb] at hcall
        have HC := Lib.hid hcall
        have HS := Lib.hid (show sel row cols = [] by simp [sel, HE.out])
        clear h h' hb hcall hE HV hl hl' ho hx hc hacc
        go_wp2_with fail
        refine (HC.out _).mono ?_
        rintro e w' ⟨rfl, rfl⟩
        go_wp2_with fail
        refine bodyPost_ret (v := .tuple #[.slice none 0 0, .bool false]) (by simp [results, Try.results86, go_sem]) rfl ⟨_, _, _, by rw [HE.out], by rw [HS.out]; exact own_nil_S.mono (Nat.le_refl _) (by omega), hb2⟩
      obtain ⟨c, rfl, hcn⟩ := betw_nat hb
      rw [hb] at hcall
      have HC := Lib.hid hcall
      obtain ⟨b2, o2, y, rfl, hcy, hy, hy1, hy2⟩ := h.get (show c < n by omega)
      have cy_lt : b2 < w.heap.size := cell_lt hcy
      have cy : wr.cell? ⟨b2, o2 + c, none⟩ = some (.int .i64 y) := (hb2.cell (p := ⟨b2, o2 + c, none⟩) cy_lt).trans hcy
      have HB := Lib.hid (selAt_step (show j < cols.length by omega) hx.out hy.out)
      have HE : Hid (selOk row cols = selOk row (cols.drop (j + 1))) := Lib.hid (by rw [hE.out, selOk_at (by omega) hx.out, hl, hb]; rfl)
      clear h h' hb hcall hE HV hl hl' ho hx hc hy hcy
      go_wp2_with (first
        | (go_at_call 69; refine (HC.out _).mono ?_; rintro e w' ⟨rfl, rfl⟩)
        | (at_builtin; refine wpList_accI _ _ _ _ _ hacc hlc rfl (by omega) (Nat.le_refl _) ⟨by omega, by omega⟩ (by omega) rfl rfl rfl rfl rfl ?_; intro v' w1 hacc' ht' hsz'))
      rw [← HB.out] at hacc'
      go_roundw
      case rel => exact ⟨j + 1, by omega, by go_num, HE.out, hacc', ht'⟩
      case measure => simp [intOf]; omega
    · obtain rfl : j = m := by omega
      have HE : Hid (selOk row cols = true) := Lib.hid (by rw [hE.out, selOk_end (by omega)])
      have HS := Lib.hid (show sel row cols = selAt row cols by simp [sel, HE.out])
      rw [List.take_of_length_le (by omega), ← HS.out] at hacc
      obtain ⟨a', n', cap2, rfl⟩ := hacc.form3
      have HO := Lib.hid (hacc.own (B := w.heap.size) (by omega) (by omega) (Nat.le_refl _))
      clear hacc h h' hl hl' ho hE HV
      go_wp2_with fail
      refine bodyPost_ret (v := .tuple #[.slice a' n' cap2, .bool true]) (by simp [results, Try.results86, go_sem]) rfl ⟨_, _, _, by rw [HE.out], HO.out, hb2⟩

set_option maxHeartbeats 2000000 in
theorem sel_spec (a b : Option Addr) (n m cap cap' : Nat) (row cols : List Int) (w : World) (h : Ints w a n row) (h' : Ints w b m cols) (hm : m ≤ 1048576) :
    Calls Try.prog 84 #[.slice a n cap, .slice b m cap'] w fun e w' => ∃ vb vn vc, e = .returned (.tuple #[.slice vb vn vc, .bool (selOk row cols)]) ∧ Own oI w.heap.size w'.heap.size w' [.slice vb vn vc] (sel row cols) ∧ Below w.heap.size w w' := by
  have hl := h.len
  have hl' := h'.len
  have hn := h.small
  have hn' := h'.small
  have HV : Hid (selOk row cols = selOk row (cols.drop 0)) := Lib.hid (by simp)
  have hwn : IntKind.i64.wrap ((n : Int) - 1) = (n : Int) - 1 := IntWalk.i64_in _ (by omega)
  have hb0 : Below w.heap.size w w := Below.refl _ _
  go_enter Try.func84, Try.ntmps84
  obtain ⟨w1, hw1⟩ : ∃ W, W = w.alloc (.cells #[] 3) := ⟨_, rfl⟩
  have z1 : Below w.heap.size w w1 := by rw [hw1]; exact (Below.refl _ _).alloc (Nat.le_refl _) _
  have s1 : w1.heap.size = w.heap.size + 1 := by rw [hw1]; simp
  have hb1 := on hb0 z1
  have ho : ∀ S, Acc 3 O.int w.heap.size S w1.heap.size w1 (.slice (some ⟨w.heap.size, 0, none⟩) 0 0) [] := fun S => by rw [hw1]; exact Acc.empty (by omega) (by first | (simp; done) | (simp; omega))
  go_wp2_with fail
  rw [← hw1]
  clear hw1
  go_loopw [6, 7] (fun v i wr => ∃ j : Nat, j ≤ m ∧ i = .int .i64 j ∧ Hid (selOk row cols = selOk row (cols.drop j)) ∧ Acc 3 O.int w.heap.size w1.heap.size wr.heap.size wr v (selAt row (cols.take j)) ∧ Turn w.heap.size (w.heap.size + 1) w1 wr) (fun _ i _ => m - (intOf i).toNat)
  case atStart => exact ⟨0, Nat.zero_le _, rfl, HV.out, by rw [List.take_zero]; exact (ho _).wide (Nat.le_refl _) (by omega), turn_refl _ _ _⟩
  case round =>
    obtain ⟨j, hj, rfl, hE, hacc, hdr⟩ := hrel
    have hlc := hdr
    have s2 := hdr.size
    have hb2 := hb1.trans ((hdr.below (by omega)).mono (by omega))
    have hbl : (selAt row (cols.take j)).length ≤ 1048576 := by rw [selAt_len]; have h2 : (cols.take j).length ≤ j := List.length_take_le _ _; omega
    by_cases hlt : j < m
    · obtain ⟨b1, o1, x, rfl, hc, hx, _, _⟩ := h'.get hlt
      have c0_lt : b1 < w.heap.size := cell_lt hc
      have c0 : wr.cell? ⟨b1, o1 + j, none⟩ = some (.int .i64 x) := (hb2.cell (p := ⟨b1, o1 + j, none⟩) c0_lt).trans hc
      have hcall := fun W => l1In_any x 0 ((n : Int) - 1) W
      by_cases hb : betw x 0 ((n : Int) - 1) = true
      case neg =>
        replace hb : betw x 0 ((n : Int) - 1) = false := by simpa using hb
        have HE := Lib.hid (selOk_no (row := row) (by omega) hx.out (by rw [hl]; exact hb))
        rw [hb] at hcall
        have HC := Lib.hid hcall
        have HS := Lib.hid (show sel row cols = [] by simp [sel, HE.out])
        clear h h' hb hcall hE HV hl hl' ho hx hc hacc
        go_wp2_with fail
        refine (HC.out _).mono ?_
        rintro e w' ⟨rfl, rfl⟩
        go_wp2_with fail
        refine bodyPost_ret (v := .tuple #[.slice (some ⟨wr.heap.size, 0, none⟩) 0 0, .bool false]) (by simp [results, Try.results84, go_sem]) rfl ⟨_, _, _, by rw [HE.out], by rw [HS.out]; exact ((Acc.empty (E := 3) (o := O.int) (S := w.heap.size) (g := wr.heap.size) (hi := wr.heap.size + 1) rfl (by omega)).own (by omega) (Nat.le_refl _) (by simp)), hb2.trans ((Below.refl _ _).alloc (by omega) _)⟩
      obtain ⟨c, rfl, hcn⟩ := betw_nat hb
      rw [hb] at hcall
      have HC := Lib.hid hcall
      obtain ⟨b2, o2, y, rfl, hcy, hy, hy1, hy2⟩ := h.get (show c < n by omega)
      have cy_lt : b2 < w.heap.size := cell_lt hcy
      have cy : wr.cell? ⟨b2, o2 + c, none⟩ = some (.int .i64 y) := (hb2.cell (p := ⟨b2, o2 + c, none⟩) cy_lt).trans hcy
      have HB := Lib.hid (selAt_step (show j < cols.length by omega) hx.out hy.out)
      have HE : Hid (selOk row cols = selOk row (cols.drop (j + 1))) := Lib.hid (by rw [hE.out, selOk_at (by omega) hx.out, hl, hb]; rfl)
      clear h h' hb hcall hE HV hl hl' ho hx hc hy hcy
      go_wp2_with (first
        | (go_at_call 66; refine (HC.out _).mono ?_; rintro e w' ⟨rfl, rfl⟩)
        | (at_builtin; refine wpList_accI _ _ _ _ _ hacc hlc rfl (by omega) (Nat.le_refl _) ⟨by omega, by omega⟩ (by omega) rfl rfl rfl rfl rfl ?_; intro v' w1 hacc' ht' hsz'))
      rw [← HB.out] at hacc'
      go_roundw
      case rel => exact ⟨j + 1, by omega, by go_num, HE.out, hacc', ht'⟩
      case measure => simp [intOf]; omega
    · obtain rfl : j = m := by omega
      have HE : Hid (selOk row cols = true) := Lib.hid (by rw [hE.out, selOk_end (by omega)])
      have HS := Lib.hid (show sel row cols = selAt row cols by simp [sel, HE.out])
      rw [List.take_of_length_le (by omega), ← HS.out] at hacc
      obtain ⟨a', n', cap2, rfl⟩ := hacc.form3
      have HO := Lib.hid (hacc.own (B := w.heap.size) (by omega) (by omega) (Nat.le_refl _))
      clear hacc h h' hl hl' ho hE HV
      go_wp2_with fail
      refine bodyPost_ret (v := .tuple #[.slice a' n' cap2, .bool true]) (by simp [results, Try.results84, go_sem]) rfl ⟨_, _, _, by rw [HE.out], HO.out, hb2⟩


end Go.Proofs.Ythhbmbkecaffeaa

/- Contracts: whether a dependency is valid. -/
namespace Go.Proofs.Ythhbmbkecaffeaa
open Go.RowKit Go.Sort
set_option linter.unusedVariables false
set_option linter.unusedSimpArgs false
set_option synthInstance.maxSize 2000
set_option synthInstance.maxHeartbeats 400000

/-- Whether a dependency is valid. -/
def validDp (db : DDb) (x : DDp) : Bool := (look db x.1).isSome && (colsB (lookT (look db x.1)).2.1 x.2.1 && (betw x.2.2 0 ((lookT (look db x.1)).2.1 - 1) && !has x.2.1 x.2.2))
theorem look_okT {db : DDb} {name : ByteArray} (h : (look db name).isSome = true) : TOk (lookT (look db name)) := by
  cases hL : look db name with
  | none => rw [hL] at h; cases h
  | some t => exact look_ok hL
theorem look_valid {db : DDb} {name : ByteArray} (h : (look db name).isSome = true) : validT (lookT (look db name)) = true := by
  cases hL : look db name with
  | none => rw [hL] at h; cases h
  | some t =>
    unfold look at hL
    split at hL
    · rename_i hv
      refine dbFrom_mem (p := none) (by have h9 := hv; simp only [validDb, Bool.and_eq_true] at h9; exact h9.1) _ (List.mem_of_find?_eq_some hL)
    · cases hL

set_option maxHeartbeats 1000000 in
theorem validDp_impl (cs ds : List Value) (db : DDb) (x : DDp) (w : World) (h : rDb.rep w cs db) (h' : rDp.rep w ds x) :
    Calls Try.prog 40 #[.agg cs.toArray, .agg ds.toArray] w fun e w' => e = .returned (.bool (validDp db x)) ∧ Below w.heap.size w w' := by
  obtain ⟨ub, un, uc, rfl, g1⟩ := rDb_open h
  obtain ⟨fb, fn, fc, rfl, hs0, gf, hi2⟩ := rDp_open h'
  obtain ⟨m1, fr, to⟩ := x
  simp only at hs0 gf hi2
  have i0 := rI_ints gf
  have hA := @lookT_ar db m1
  have hc1 := fun W (hW : Below w.heap.size w W) => lookI_any [.slice ub un uc] db m1 W (rDb.mono h hW)
  have hct := fun (cs : List Value) W (hW : Below w.heap.size w W) (ht : rT.rep W cs (lookT (look db m1))) => l10Cols_any cs (lookT (look db m1)) fb fn fc fr W ht (i0.below hW)
  have HV : Hid (validDp db (m1, fr, to) = ((look db m1).isSome && (colsB (lookT (look db m1)).2.1 fr && (betw to 0 ((lookT (look db m1)).2.1 - 1) && !has fr to)))) := rfl
  have hCT : (look db m1).isSome = true → colsT (lookT (look db m1)) fr = colsB (lookT (look db m1)).2.1 fr := fun h => by rw [colsT, look_valid h, Bool.and_true]
  obtain ⟨p, hp⟩ : ∃ p, (look db m1).isSome = p := ⟨_, rfl⟩
  obtain ⟨t1, ht1⟩ : ∃ t, lookT (look db m1) = t := ⟨_, rfl⟩
  rw [hp, ht1] at HV hCT
  simp only [hp, ht1] at hc1 hA
  simp only [ht1] at hct
  obtain ⟨q, hq⟩ : ∃ q, colsT t1 fr = q := ⟨_, rfl⟩
  rw [hq] at hCT
  simp only [hq] at hct
  obtain ⟨ns, A, r1⟩ := t1
  simp only at hA HV hc1 hCT
  have HC1 := Lib.hid hc1
  have HCT := Lib.hid hct
  have hwA : IntKind.i64.wrap (A - 1) = A - 1 := IntWalk.i64_in _ (by omega)
  obtain ⟨u, hu⟩ : ∃ u, colsB A fr = u := ⟨_, rfl⟩
  obtain ⟨v, hv⟩ : ∃ v, betw to 0 (A - 1) = v := ⟨_, rfl⟩
  obtain ⟨z, hz⟩ : ∃ z, has fr to = z := ⟨_, rfl⟩
  rw [hu] at HV hCT
  rw [hv, hz] at HV
  clear hc1 hct hp ht1 hq h h' g1 gf hs0 hi2
  have hb0 : Below w.heap.size w w := Below.refl _ _
  go_enter Try.func40, Try.ntmps40
  obtain ⟨w1, hw1⟩ : ∃ W, W = w.alloc (.cells #[.slice ub un uc] 49) := ⟨_, rfl⟩
  have z1 : Below w.heap.size w w1 := by rw [hw1]; exact (Below.refl _ _).alloc (Nat.le_refl _) _
  have s1 : w1.heap.size = w.heap.size + 1 := by rw [hw1]; simp
  have hb1 := on hb0 z1
  have b_0 : w1.cell? ⟨w.heap.size, 0, none⟩ = some (.slice ub un uc) := by rw [hw1]; exact box_cell (Below.refl _ _) rfl
  have raw1_b_0 := b_0
  rw [hw1] at raw1_b_0
  obtain ⟨w2, hw2⟩ : ∃ W, W = w1.alloc (.cells #[.string m1, .slice fb fn fc, .int .i64 to] 68) := ⟨_, rfl⟩
  have z2 : Below w1.heap.size w1 w2 := by rw [hw2]; exact (Below.refl _ _).alloc (Nat.le_refl _) _
  have s2 : w2.heap.size = w1.heap.size + 1 := by rw [hw2]; simp
  have hb2 := on hb1 z2
  replace b_0 := (z2.cell (p := ⟨w.heap.size, 0, none⟩) (by simp only []; omega)).trans b_0
  have e2 : w1.heap.size = w.heap.size + 1 := by omega
  have x_0 : w2.cell? ⟨w1.heap.size, 0, none⟩ = some (.string m1) := by rw [hw2]; exact box_cell (Below.refl _ _) rfl
  have x_1 : w2.cell? ⟨w1.heap.size, 1, none⟩ = some (.slice fb fn fc) := by rw [hw2]; exact box_cell (Below.refl _ _) rfl
  have x_2 : w2.cell? ⟨w1.heap.size, 2, none⟩ = some (.int .i64 to) := by rw [hw2]; exact box_cell (Below.refl _ _) rfl
  rw [e2] at x_0 x_1 x_2
  have raw2_b_0 := b_0
  have raw2_x_0 := x_0
  have raw2_x_1 := x_1
  have raw2_x_2 := x_2
  rw [hw2, hw1] at raw2_b_0 raw2_x_0 raw2_x_1 raw2_x_2
  go_wp2_with fail
  rw [← hw1]
  rw [← hw2]
  clear hw2 hw1
  clear raw1_b_0 raw2_b_0 raw2_x_0 raw2_x_1 raw2_x_2
  refine (HC1.out _ hb2).mono ?_
  rintro e w9 ⟨vb, vn, vc, rfl, ho, z9⟩
  have s3 := z9.size
  have hb3 := on hb2 z9
  replace b_0 := (z9.cell (p := ⟨w.heap.size, 0, none⟩) (by simp only []; omega)).trans b_0
  replace x_0 := (z9.cell (p := ⟨w.heap.size + 1, 0, none⟩) (by simp only []; omega)).trans x_0
  replace x_1 := (z9.cell (p := ⟨w.heap.size + 1, 1, none⟩) (by simp only []; omega)).trans x_1
  replace x_2 := (z9.cell (p := ⟨w.heap.size + 1, 2, none⟩) (by simp only []; omega)).trans x_2
  obtain ⟨w4, hw4⟩ : ∃ W, W = w9.alloc (.cells #[.string ns, .int .i64 A, .slice vb vn vc] 91) := ⟨_, rfl⟩
  have z4 : Below w9.heap.size w9 w4 := by rw [hw4]; exact (Below.refl _ _).alloc (Nat.le_refl _) _
  have s4 : w4.heap.size = w9.heap.size + 1 := by rw [hw4]; simp
  have hb4 := on hb3 z4
  have old4_b_0 := b_0
  have old4_x_0 := x_0
  have old4_x_1 := x_1
  have old4_x_2 := x_2
  replace b_0 := (z4.cell (p := ⟨w.heap.size, 0, none⟩) (by simp only []; omega)).trans b_0
  replace x_0 := (z4.cell (p := ⟨w.heap.size + 1, 0, none⟩) (by simp only []; omega)).trans x_0
  replace x_1 := (z4.cell (p := ⟨w.heap.size + 1, 1, none⟩) (by simp only []; omega)).trans x_1
  replace x_2 := (z4.cell (p := ⟨w.heap.size + 1, 2, none⟩) (by simp only []; omega)).trans x_2
  replace ho := ho.below z4 (by omega)
  have t_0 : w4.cell? ⟨w9.heap.size, 0, none⟩ = some (.string ns) := by rw [hw4]; exact box_cell (Below.refl _ _) rfl
  have t_1 : w4.cell? ⟨w9.heap.size, 1, none⟩ = some (.int .i64 A) := by rw [hw4]; exact box_cell (Below.refl _ _) rfl
  have t_2 : w4.cell? ⟨w9.heap.size, 2, none⟩ = some (.slice vb vn vc) := by rw [hw4]; exact box_cell (Below.refl _ _) rfl
  have raw4_b_0 := b_0
  have raw4_x_0 := x_0
  have raw4_x_1 := x_1
  have raw4_x_2 := x_2
  have raw4_t_0 := t_0
  have raw4_t_1 := t_1
  have raw4_t_2 := t_2
  rw [hw4] at raw4_b_0 raw4_x_0 raw4_x_1 raw4_x_2 raw4_t_0 raw4_t_1 raw4_t_2
  cases p with
  | false =>
    go_wp2_with fail
    rw [← hw4]
    clear hw4
    clear old4_b_0 old4_x_0 old4_x_1 old4_x_2 raw4_b_0 raw4_x_0 raw4_x_1 raw4_x_2 raw4_t_0 raw4_t_1 raw4_t_2
    go_wp2_with fail
    go_ret
    exact ⟨ret_bool (by rw [HV.out]; rfl), hb4⟩
  | true =>
    obtain rfl : q = u := hCT rfl
    have i1 := i0.below hb4
    cases q with
    | false =>
      go_wp2_with fail
      rw [← hw4]
      clear hw4
      clear old4_b_0 old4_x_0 old4_x_1 old4_x_2 raw4_b_0 raw4_x_0 raw4_x_1 raw4_x_2 raw4_t_0 raw4_t_1 raw4_t_2
      refine (columnsOk_any _ _ _ _ _ _ i1 ⟨by omega, by omega⟩ (by omega)).mono ?_
      rintro e w' ⟨rfl, rfl⟩
      rw [hu]
      go_wp2_with fail
      go_ret
      exact ⟨ret_bool (by rw [HV.out]; rfl), hb4⟩
    | true =>
      go_wp2_with fail
      rw [← hw4]
      clear hw4
      clear old4_b_0 old4_x_0 old4_x_1 old4_x_2 raw4_b_0 raw4_x_0 raw4_x_1 raw4_x_2 raw4_t_0 raw4_t_1 raw4_t_2
      refine (columnsOk_any _ _ _ _ _ _ i1 ⟨by omega, by omega⟩ (by omega)).mono ?_
      rintro e w' ⟨rfl, rfl⟩
      rw [hu]
      go_wp2_with fail
      refine (within_any _ _ _ _).mono ?_
      rintro e w' ⟨rfl, rfl⟩
      rw [hv]
      cases v with
      | false =>
        go_wp2_with fail
        go_wp2_with fail
        go_ret
        exact ⟨ret_bool (by rw [HV.out]; rfl), hb4⟩
      | true =>
        go_wp2_with fail
        refine (contains_any _ _ _ _ _ _ i1).mono ?_
        rintro e w' ⟨rfl, rfl⟩
        rw [hz]
        go_wp2_with fail
        go_ret
        exact ⟨ret_bool (by rw [HV.out]; rfl), hb4⟩

set_option maxHeartbeats 1000000 in
theorem validDp_spec (cs ds : List Value) (db : DDb) (x : DDp) (w : World) (h : rDb.rep w cs db) (h' : rDp.rep w ds x) :
    Calls Try.prog 38 #[.agg cs.toArray, .agg ds.toArray] w fun e w' => e = .returned (.bool (validDp db x)) ∧ Below w.heap.size w w' := by
  obtain ⟨ub, un, uc, rfl, g1⟩ := rDb_open h
  obtain ⟨fb, fn, fc, rfl, hs0, gf, hi2⟩ := rDp_open h'
  obtain ⟨m1, fr, to⟩ := x
  simp only at hs0 gf hi2
  have i0 := rI_ints gf
  have hA := @lookT_ar db m1
  have hc1 := fun W (hW : Below w.heap.size w W) => lookS_any [.slice ub un uc] db m1 W (rDb.mono h hW)
  have hct := fun (cs : List Value) W (hW : Below w.heap.size w W) (ht : rT.rep W cs (lookT (look db m1))) => l10Cols_any cs (lookT (look db m1)) fb fn fc fr W ht (i0.below hW)
  have HV : Hid (validDp db (m1, fr, to) = ((look db m1).isSome && (colsB (lookT (look db m1)).2.1 fr && (betw to 0 ((lookT (look db m1)).2.1 - 1) && !has fr to)))) := rfl
  have hCT : (look db m1).isSome = true → colsT (lookT (look db m1)) fr = colsB (lookT (look db m1)).2.1 fr := fun h => by rw [colsT, look_valid h, Bool.and_true]
  obtain ⟨p, hp⟩ : ∃ p, (look db m1).isSome = p := ⟨_, rfl⟩
  obtain ⟨t1, ht1⟩ : ∃ t, lookT (look db m1) = t := ⟨_, rfl⟩
  rw [hp, ht1] at HV hCT
  simp only [hp, ht1] at hc1 hA
  simp only [ht1] at hct
  obtain ⟨q, hq⟩ : ∃ q, colsT t1 fr = q := ⟨_, rfl⟩
  rw [hq] at hCT
  simp only [hq] at hct
  obtain ⟨ns, A, r1⟩ := t1
  simp only at hA HV hc1 hCT
  have HC1 := Lib.hid hc1
  have HCT := Lib.hid hct
  have hwA : IntKind.i64.wrap (A - 1) = A - 1 := IntWalk.i64_in _ (by omega)
  obtain ⟨u, hu⟩ : ∃ u, colsB A fr = u := ⟨_, rfl⟩
  obtain ⟨v, hv⟩ : ∃ v, betw to 0 (A - 1) = v := ⟨_, rfl⟩
  obtain ⟨z, hz⟩ : ∃ z, has fr to = z := ⟨_, rfl⟩
  rw [hu] at HV hCT
  rw [hv, hz] at HV
  clear hc1 hct hp ht1 hq h h' g1 gf hs0 hi2
  have hb0 : Below w.heap.size w w := Below.refl _ _
  go_enter Try.func38, Try.ntmps38
  obtain ⟨w1, hw1⟩ : ∃ W, W = w.alloc (.cells #[.slice ub un uc] 49) := ⟨_, rfl⟩
  have z1 : Below w.heap.size w w1 := by rw [hw1]; exact (Below.refl _ _).alloc (Nat.le_refl _) _
  have s1 : w1.heap.size = w.heap.size + 1 := by rw [hw1]; simp
  have hb1 := on hb0 z1
  have b_0 : w1.cell? ⟨w.heap.size, 0, none⟩ = some (.slice ub un uc) := by rw [hw1]; exact box_cell (Below.refl _ _) rfl
  have raw1_b_0 := b_0
  rw [hw1] at raw1_b_0
  obtain ⟨w2, hw2⟩ : ∃ W, W = w1.alloc (.cells #[.string m1, .slice fb fn fc, .int .i64 to] 68) := ⟨_, rfl⟩
  have z2 : Below w1.heap.size w1 w2 := by rw [hw2]; exact (Below.refl _ _).alloc (Nat.le_refl _) _
  have s2 : w2.heap.size = w1.heap.size + 1 := by rw [hw2]; simp
  have hb2 := on hb1 z2
  replace b_0 := (z2.cell (p := ⟨w.heap.size, 0, none⟩) (by simp only []; omega)).trans b_0
  have e2 : w1.heap.size = w.heap.size + 1 := by omega
  have x_0 : w2.cell? ⟨w1.heap.size, 0, none⟩ = some (.string m1) := by rw [hw2]; exact box_cell (Below.refl _ _) rfl
  have x_1 : w2.cell? ⟨w1.heap.size, 1, none⟩ = some (.slice fb fn fc) := by rw [hw2]; exact box_cell (Below.refl _ _) rfl
  have x_2 : w2.cell? ⟨w1.heap.size, 2, none⟩ = some (.int .i64 to) := by rw [hw2]; exact box_cell (Below.refl _ _) rfl
  rw [e2] at x_0 x_1 x_2
  have raw2_b_0 := b_0
  have raw2_x_0 := x_0
  have raw2_x_1 := x_1
  have raw2_x_2 := x_2
  rw [hw2, hw1] at raw2_b_0 raw2_x_0 raw2_x_1 raw2_x_2
  go_wp2_with fail
  rw [← hw1]
  rw [← hw2]
  clear hw2 hw1
  clear raw1_b_0 raw2_b_0 raw2_x_0 raw2_x_1 raw2_x_2
  refine (HC1.out _ hb2).mono ?_
  rintro e w9 ⟨vb, vn, vc, rfl, ho, z9⟩
  have s3 := z9.size
  have hb3 := on hb2 z9
  replace b_0 := (z9.cell (p := ⟨w.heap.size, 0, none⟩) (by simp only []; omega)).trans b_0
  replace x_0 := (z9.cell (p := ⟨w.heap.size + 1, 0, none⟩) (by simp only []; omega)).trans x_0
  replace x_1 := (z9.cell (p := ⟨w.heap.size + 1, 1, none⟩) (by simp only []; omega)).trans x_1
  replace x_2 := (z9.cell (p := ⟨w.heap.size + 1, 2, none⟩) (by simp only []; omega)).trans x_2
  obtain ⟨w4, hw4⟩ : ∃ W, W = w9.alloc (.cells #[.string ns, .int .i64 A, .slice vb vn vc] 91) := ⟨_, rfl⟩
  have z4 : Below w9.heap.size w9 w4 := by rw [hw4]; exact (Below.refl _ _).alloc (Nat.le_refl _) _
  have s4 : w4.heap.size = w9.heap.size + 1 := by rw [hw4]; simp
  have hb4 := on hb3 z4
  have old4_b_0 := b_0
  have old4_x_0 := x_0
  have old4_x_1 := x_1
  have old4_x_2 := x_2
  replace b_0 := (z4.cell (p := ⟨w.heap.size, 0, none⟩) (by simp only []; omega)).trans b_0
  replace x_0 := (z4.cell (p := ⟨w.heap.size + 1, 0, none⟩) (by simp only []; omega)).trans x_0
  replace x_1 := (z4.cell (p := ⟨w.heap.size + 1, 1, none⟩) (by simp only []; omega)).trans x_1
  replace x_2 := (z4.cell (p := ⟨w.heap.size + 1, 2, none⟩) (by simp only []; omega)).trans x_2
  replace ho := ho.below z4 (by omega)
  have t_0 : w4.cell? ⟨w9.heap.size, 0, none⟩ = some (.string ns) := by rw [hw4]; exact box_cell (Below.refl _ _) rfl
  have t_1 : w4.cell? ⟨w9.heap.size, 1, none⟩ = some (.int .i64 A) := by rw [hw4]; exact box_cell (Below.refl _ _) rfl
  have t_2 : w4.cell? ⟨w9.heap.size, 2, none⟩ = some (.slice vb vn vc) := by rw [hw4]; exact box_cell (Below.refl _ _) rfl
  have raw4_b_0 := b_0
  have raw4_x_0 := x_0
  have raw4_x_1 := x_1
  have raw4_x_2 := x_2
  have raw4_t_0 := t_0
  have raw4_t_1 := t_1
  have raw4_t_2 := t_2
  rw [hw4] at raw4_b_0 raw4_x_0 raw4_x_1 raw4_x_2 raw4_t_0 raw4_t_1 raw4_t_2
  cases p with
  | false =>
    go_wp2_with fail
    rw [← hw4]
    clear hw4
    clear old4_b_0 old4_x_0 old4_x_1 old4_x_2 raw4_b_0 raw4_x_0 raw4_x_1 raw4_x_2 raw4_t_0 raw4_t_1 raw4_t_2
    go_wp2_with fail
    go_ret
    exact ⟨ret_bool (by rw [HV.out]; rfl), hb4⟩
  | true =>
    obtain rfl : q = u := hCT rfl
    have i1 := i0.below hb4
    go_wp2_with fail
    rw [← hw4]
    clear hw4
    clear old4_b_0 old4_x_0 old4_x_1 old4_x_2 raw4_b_0 raw4_x_0 raw4_x_1 raw4_x_2 raw4_t_0 raw4_t_1 raw4_t_2
    refine (HCT.out _ _ hb4 (ho.rd reads_T)).mono ?_
    rintro e w10 ⟨rfl, z10⟩
    have s5 := z10.size
    have hb5 := on hb4 z10
    replace b_0 := (z10.cell (p := ⟨w.heap.size, 0, none⟩) (by simp only []; omega)).trans b_0
    replace x_0 := (z10.cell (p := ⟨w.heap.size + 1, 0, none⟩) (by simp only []; omega)).trans x_0
    replace x_1 := (z10.cell (p := ⟨w.heap.size + 1, 1, none⟩) (by simp only []; omega)).trans x_1
    replace x_2 := (z10.cell (p := ⟨w.heap.size + 1, 2, none⟩) (by simp only []; omega)).trans x_2
    replace ho := ho.below z10 (by omega)
    replace t_0 := (z10.cell (p := ⟨w9.heap.size, 0, none⟩) (by simp only []; omega)).trans t_0
    replace t_1 := (z10.cell (p := ⟨w9.heap.size, 1, none⟩) (by simp only []; omega)).trans t_1
    replace t_2 := (z10.cell (p := ⟨w9.heap.size, 2, none⟩) (by simp only []; omega)).trans t_2
    clear i1
    have i1 := i0.below hb5
    cases q with
    | false =>
      go_wp2_with fail
      go_wp2_with fail
      go_ret
      exact ⟨ret_bool (by rw [HV.out]; rfl), hb5⟩
    | true =>
      go_wp2_with fail
      go_wp2_with fail
      refine (l1In_any _ _ _ _).mono ?_
      rintro e w' ⟨rfl, rfl⟩
      rw [hv]
      cases v with
      | false =>
        go_wp2_with fail
        go_wp2_with fail
        go_ret
        exact ⟨ret_bool (by rw [HV.out]; rfl), hb5⟩
      | true =>
        go_wp2_with fail
        refine (l7Has_any _ _ _ _ _ _ i1).mono ?_
        rintro e w' ⟨rfl, rfl⟩
        rw [hz]
        go_wp2_with fail
        go_ret
        exact ⟨ret_bool (by rw [HV.out]; rfl), hb5⟩

end Go.Proofs.Ythhbmbkecaffeaa
