/- Texts joined for one claim: Look3, MaskI, LookA, For, EvalM, EvalI. -/
import Derived.Test.YtkipgbgkhffkkaaQaac7d68cc5
import Derived.Deep.RegionHeld3

/- Contracts: tables looked up (3), the reference. -/
namespace Go.Proofs.Ytkipgbgkhffkkaa
open Go.RowKit Go.Sort
set_option linter.unusedVariables false
set_option linter.unusedSimpArgs false
set_option synthInstance.maxSize 2000
set_option synthInstance.maxHeartbeats 400000

theorem look_none_valid {db : DDb} {name : ByteArray} (h : look db name = none) (hv : validDb db = true) : idxFrom name 0 db = -1 := by
  rcases look_none_idx h with h1 | ⟨k, h1, h2⟩
  · exact h1
  · rw [hv] at h2; cases h2

set_option maxHeartbeats 1000000 in
theorem lookS_none (cs : List Value) (db : DDb) (name : ByteArray) (w : World) (h : rDb.rep w cs db) (hL : look db name = none) :
    Calls Try.prog 104 #[.agg cs.toArray, .string name] w fun e w' => e = .returned (.tuple #[.agg noT, .bool false]) ∧ Below w.heap.size w w' := by
  obtain ⟨ub, un, uc, rfl, g1⟩ := rDb_open h
  have hval := fun W (hW : Below w.heap.size w W) => validDb_spec [.slice ub un uc] db W (rDb.mono h hW)
  have t1 := rS_sl g1
  have hl := t1.len
  have hn := t1.small
  have HL := Lib.hid hl
  obtain ⟨q, hq⟩ : ∃ q, validDb db = q := ⟨_, rfl⟩
  simp only [hq] at hval
  have HV := Lib.hid hval
  have HQ : Hid (q = true → idxFrom name 0 db = -1) := Lib.hid (fun h9 => look_none_valid hL (hq.trans h9))
  have HE0 : Hid (idxFrom name 0 db = idxFrom name 0 (db.drop 0)) := rfl
  clear hval hL hq h g1 hl
  have hb0 : Below w.heap.size w w := Below.refl _ _
  go_enter Try.func104, Try.ntmps104
  obtain ⟨w1, hw1⟩ : ∃ W, W = w.alloc (.cells #[.slice ub un uc] 33) := ⟨_, rfl⟩
  have z1 : Below w.heap.size w w1 := by rw [hw1]; exact (Below.refl _ _).alloc (Nat.le_refl _) _
  have s1 : w1.heap.size = w.heap.size + 1 := by rw [hw1]; simp
  have hb1 := on hb0 z1
  have b_0 : w1.cell? ⟨w.heap.size, 0, none⟩ = some (.slice ub un uc) := by rw [hw1]; exact box_cell (Below.refl _ _) rfl
  have b_f0 : w1.frozen? ⟨w.heap.size, 0, none⟩ = false := by rw [hw1]; exact box_frozen (Below.refl _ _)
  have raw1_b_0 := b_0
  rw [hw1] at raw1_b_0
  obtain ⟨w2, hw2⟩ : ∃ W, W = w1.alloc (.cells #[.string ⟨#[]⟩, .int .i64 0, .slice none 0 0] 54) := ⟨_, rfl⟩
  have z2 : Below w1.heap.size w1 w2 := by rw [hw2]; exact (Below.refl _ _).alloc (Nat.le_refl _) _
  have s2 : w2.heap.size = w1.heap.size + 1 := by rw [hw2]; simp
  have hb2 := on hb1 z2
  replace b_0 := (z2.cell (p := ⟨w.heap.size, 0, none⟩) (by simp only []; omega)).trans b_0
  replace b_f0 := (z2.frozen (p := ⟨w.heap.size, 0, none⟩) (by simp only []; omega)).trans b_f0
  have e2 : w1.heap.size = w.heap.size + 1 := by omega
  have r_0 : w2.cell? ⟨w1.heap.size, 0, none⟩ = some (.string ⟨#[]⟩) := by rw [hw2]; exact box_cell (Below.refl _ _) rfl
  have r_1 : w2.cell? ⟨w1.heap.size, 1, none⟩ = some (.int .i64 0) := by rw [hw2]; exact box_cell (Below.refl _ _) rfl
  have r_2 : w2.cell? ⟨w1.heap.size, 2, none⟩ = some (.slice none 0 0) := by rw [hw2]; exact box_cell (Below.refl _ _) rfl
  rw [e2] at r_0 r_1 r_2
  have r_f0 : w2.frozen? ⟨w1.heap.size, 0, none⟩ = false := by rw [hw2]; exact box_frozen (Below.refl _ _)
  have r_f1 : w2.frozen? ⟨w1.heap.size, 1, none⟩ = false := by rw [hw2]; exact box_frozen (Below.refl _ _)
  have r_f2 : w2.frozen? ⟨w1.heap.size, 2, none⟩ = false := by rw [hw2]; exact box_frozen (Below.refl _ _)
  rw [e2] at r_f0 r_f1 r_f2
  have raw2_b_0 := b_0
  have raw2_r_0 := r_0
  have raw2_r_1 := r_1
  have raw2_r_2 := r_2
  rw [hw2, hw1] at raw2_b_0 raw2_r_0 raw2_r_1 raw2_r_2
  go_wp2_with fail
  rw [← hw1]
  rw [← hw2]
  clear hw2 hw1
  clear raw1_b_0 raw2_b_0 raw2_r_0 raw2_r_1 raw2_r_2
  go_loopw [6] (fun k wr => ∃ j : Nat, j ≤ un ∧ k = .int .i64 j ∧ Hid (idxFrom name 0 db = idxFrom name j (db.drop j)) ∧ Below w2.heap.size w2 wr) (fun k _ => un - (intOf k).toNat)
  case atStart => exact ⟨0, Nat.zero_le _, rfl, HE0.out, Below.refl _ _⟩
  case round =>
    obtain ⟨j, hj, rfl, hE, hdr⟩ := hrel
    obtain ⟨wo, rfl⟩ : ∃ W, W = wr := ⟨_, rfl⟩
    have hlc := hdr
    have s3 := hdr.size
    have hb3 := on hb2 hdr
    replace b_0 := (hdr.cell (p := ⟨w.heap.size, 0, none⟩) (by simp only []; omega)).trans b_0
    replace b_f0 := (hdr.frozen (p := ⟨w.heap.size, 0, none⟩) (by simp only []; omega)).trans b_f0
    replace r_0 := (hdr.cell (p := ⟨w.heap.size + 1, 0, none⟩) (by simp only []; omega)).trans r_0
    replace r_1 := (hdr.cell (p := ⟨w.heap.size + 1, 1, none⟩) (by simp only []; omega)).trans r_1
    replace r_2 := (hdr.cell (p := ⟨w.heap.size + 1, 2, none⟩) (by simp only []; omega)).trans r_2
    replace r_f0 := (hdr.frozen (p := ⟨w.heap.size + 1, 0, none⟩) (by simp only []; omega)).trans r_f0
    replace r_f1 := (hdr.frozen (p := ⟨w.heap.size + 1, 1, none⟩) (by simp only []; omega)).trans r_f1
    replace r_f2 := (hdr.frozen (p := ⟨w.heap.size + 1, 2, none⟩) (by simp only []; omega)).trans r_f2
    by_cases hlt : j < un
    · go_wp2_with fail
      refine (HV.out _ hb3).mono ?_
      rintro e w9 ⟨rfl, z9⟩
      have s4 := z9.size
      have hb4 := on hb3 z9
      replace b_0 := (z9.cell (p := ⟨w.heap.size, 0, none⟩) (by simp only []; omega)).trans b_0
      replace b_f0 := (z9.frozen (p := ⟨w.heap.size, 0, none⟩) (by simp only []; omega)).trans b_f0
      replace r_0 := (z9.cell (p := ⟨w.heap.size + 1, 0, none⟩) (by simp only []; omega)).trans r_0
      replace r_1 := (z9.cell (p := ⟨w.heap.size + 1, 1, none⟩) (by simp only []; omega)).trans r_1
      replace r_2 := (z9.cell (p := ⟨w.heap.size + 1, 2, none⟩) (by simp only []; omega)).trans r_2
      replace r_f0 := (z9.frozen (p := ⟨w.heap.size + 1, 0, none⟩) (by simp only []; omega)).trans r_f0
      replace r_f1 := (z9.frozen (p := ⟨w.heap.size + 1, 1, none⟩) (by simp only []; omega)).trans r_f1
      replace r_f2 := (z9.frozen (p := ⟨w.heap.size + 1, 2, none⟩) (by simp only []; omega)).trans r_f2
      replace hlc := on hlc z9
      cases q with
      | false =>
        go_wp2_with fail
        refine bodyPost_ret (v := .tuple #[.agg noT, .bool false]) (by simp [results, Try.results104, go_sem, noT, r_0, r_1, r_2, r_f0, r_f1, r_f2]) rfl ⟨rfl, ?_⟩
        repeat (refine Below.setCell ?_ (by simp only []; omega) _)
        exact hb4
      | true =>
        obtain ⟨b1, o1, cs, t, rfl, hx, hr, hc⟩ := t1.at hlt
        have hne : t.1 ≠ name := fun h9 => by have h8 := hE.out.trans (idxFrom_yes hx.out h9); rw [HQ.out rfl] at h8; omega
        have HE : Hid (idxFrom name 0 db = idxFrom name (j + 1) (db.drop (j + 1))) := Lib.hid (hE.out.trans (idxFrom_no hx.out hne))
        have hq9 := bytes_ne hne
        obtain ⟨s, i, rows⟩ := t
        obtain ⟨tb, tn, tc, rfl, hs, hi, g2⟩ := rT_open hr
        simp only at hs hi g2 hq9
        have e_lt : b1 < w.heap.size := cell_lt (hc 0 _ rfl)
        have e_0 : w9.cell? ⟨b1, o1 + j * 3, none⟩ = some (.string s) := (hb4.cell (p := ⟨b1, o1 + j * 3, none⟩) e_lt).trans (by have h9 := hc 0 _ rfl; rw [← Nat.add_assoc] at h9; exact h9)
        have e_1 : w9.cell? ⟨b1, o1 + j * 3 + 1, none⟩ = some (.int .i64 i) := (hb4.cell (p := ⟨b1, o1 + j * 3 + 1, none⟩) e_lt).trans (by have h9 := hc 1 _ rfl; rw [← Nat.add_assoc] at h9; exact h9)
        have e_2 : w9.cell? ⟨b1, o1 + j * 3 + 2, none⟩ = some (.slice tb tn tc) := (hb4.cell (p := ⟨b1, o1 + j * 3 + 2, none⟩) e_lt).trans (by have h9 := hc 2 _ rfl; rw [← Nat.add_assoc] at h9; exact h9)
        clear hE hx hr hc g2 t1 hs hi hne
        go_wp2_with fail
        go_roundw
        case rel => exact ⟨j + 1, by omega, by go_num, HE.out, hlc⟩
        case measure => simp [intOf]; omega
    · go_wp2_with fail
      refine bodyPost_ret (v := .tuple #[.agg noT, .bool false]) (by simp [results, Try.results104, go_sem, noT, r_0, r_1, r_2, r_f0, r_f1, r_f2]) rfl ⟨rfl, ?_⟩
      repeat (refine Below.setCell ?_ (by simp only []; omega) _)
      exact hb3

set_option maxHeartbeats 1000000 in
theorem lookS_some (cs : List Value) (db : DDb) (name : ByteArray) (t : DT) (w : World) (h : rDb.rep w cs db) (hL : look db name = some t) :
    Calls Try.prog 104 #[.agg cs.toArray, .string name] w fun e w' => ∃ ds, e = .returned (.tuple #[.agg ds.toArray, .bool true]) ∧ Own oT w.heap.size w'.heap.size w' ds t ∧ Below w.heap.size w w' := by
  obtain ⟨ub, un, uc, rfl, g1⟩ := rDb_open h
  have hval := fun W (hW : Below w.heap.size w W) => validDb_spec [.slice ub un uc] db W (rDb.mono h hW)
  have hbk := (look_ok hL).bulk
  obtain ⟨k, HI, hk, hv⟩ := look_some_idx hL
  have t1 := rS_sl g1
  have hl := t1.len
  have hn := t1.small
  have hkn : k < un := by rw [← hl]; exact (List.getElem?_eq_some_iff.1 hk).1
  have HL := Lib.hid hl
  simp only [hv] at hval
  have HV := Lib.hid hval
  have HK := Lib.hid hk
  have HI := Lib.hid HI
  have HE0 : Hid (idxFrom name 0 db = idxFrom name 0 (db.drop 0)) := rfl
  clear hval hL hv hk h g1 hl
  have hb0 : Below w.heap.size w w := Below.refl _ _
  go_enter Try.func104, Try.ntmps104
  obtain ⟨w1, hw1⟩ : ∃ W, W = w.alloc (.cells #[.slice ub un uc] 33) := ⟨_, rfl⟩
  have z1 : Below w.heap.size w w1 := by rw [hw1]; exact (Below.refl _ _).alloc (Nat.le_refl _) _
  have s1 : w1.heap.size = w.heap.size + 1 := by rw [hw1]; simp
  have hb1 := on hb0 z1
  have b_0 : w1.cell? ⟨w.heap.size, 0, none⟩ = some (.slice ub un uc) := by rw [hw1]; exact box_cell (Below.refl _ _) rfl
  have b_f0 : w1.frozen? ⟨w.heap.size, 0, none⟩ = false := by rw [hw1]; exact box_frozen (Below.refl _ _)
  have raw1_b_0 := b_0
  rw [hw1] at raw1_b_0
  obtain ⟨w2, hw2⟩ : ∃ W, W = w1.alloc (.cells #[.string ⟨#[]⟩, .int .i64 0, .slice none 0 0] 54) := ⟨_, rfl⟩
  have z2 : Below w1.heap.size w1 w2 := by rw [hw2]; exact (Below.refl _ _).alloc (Nat.le_refl _) _
  have s2 : w2.heap.size = w1.heap.size + 1 := by rw [hw2]; simp
  have hb2 := on hb1 z2
  replace b_0 := (z2.cell (p := ⟨w.heap.size, 0, none⟩) (by simp only []; omega)).trans b_0
  replace b_f0 := (z2.frozen (p := ⟨w.heap.size, 0, none⟩) (by simp only []; omega)).trans b_f0
  have e2 : w1.heap.size = w.heap.size + 1 := by omega
  have r_0 : w2.cell? ⟨w1.heap.size, 0, none⟩ = some (.string ⟨#[]⟩) := by rw [hw2]; exact box_cell (Below.refl _ _) rfl
  have r_1 : w2.cell? ⟨w1.heap.size, 1, none⟩ = some (.int .i64 0) := by rw [hw2]; exact box_cell (Below.refl _ _) rfl
  have r_2 : w2.cell? ⟨w1.heap.size, 2, none⟩ = some (.slice none 0 0) := by rw [hw2]; exact box_cell (Below.refl _ _) rfl
  rw [e2] at r_0 r_1 r_2
  have r_f0 : w2.frozen? ⟨w1.heap.size, 0, none⟩ = false := by rw [hw2]; exact box_frozen (Below.refl _ _)
  have r_f1 : w2.frozen? ⟨w1.heap.size, 1, none⟩ = false := by rw [hw2]; exact box_frozen (Below.refl _ _)
  have r_f2 : w2.frozen? ⟨w1.heap.size, 2, none⟩ = false := by rw [hw2]; exact box_frozen (Below.refl _ _)
  rw [e2] at r_f0 r_f1 r_f2
  have raw2_b_0 := b_0
  have raw2_r_0 := r_0
  have raw2_r_1 := r_1
  have raw2_r_2 := r_2
  rw [hw2, hw1] at raw2_b_0 raw2_r_0 raw2_r_1 raw2_r_2
  go_wp2_with fail
  rw [← hw1]
  rw [← hw2]
  clear hw2 hw1
  clear raw1_b_0 raw2_b_0 raw2_r_0 raw2_r_1 raw2_r_2
  go_loopw [6] (fun k wr => ∃ j : Nat, j ≤ un ∧ k = .int .i64 j ∧ Hid (idxFrom name 0 db = idxFrom name j (db.drop j)) ∧ Below w2.heap.size w2 wr) (fun k _ => un - (intOf k).toNat)
  case atStart => exact ⟨0, Nat.zero_le _, rfl, HE0.out, Below.refl _ _⟩
  case round =>
    obtain ⟨j, hj, rfl, hE, hdr⟩ := hrel
    obtain ⟨wo, rfl⟩ : ∃ W, W = wr := ⟨_, rfl⟩
    have hlc := hdr
    have s3 := hdr.size
    have hb3 := on hb2 hdr
    replace b_0 := (hdr.cell (p := ⟨w.heap.size, 0, none⟩) (by simp only []; omega)).trans b_0
    replace b_f0 := (hdr.frozen (p := ⟨w.heap.size, 0, none⟩) (by simp only []; omega)).trans b_f0
    replace r_0 := (hdr.cell (p := ⟨w.heap.size + 1, 0, none⟩) (by simp only []; omega)).trans r_0
    replace r_1 := (hdr.cell (p := ⟨w.heap.size + 1, 1, none⟩) (by simp only []; omega)).trans r_1
    replace r_2 := (hdr.cell (p := ⟨w.heap.size + 1, 2, none⟩) (by simp only []; omega)).trans r_2
    replace r_f0 := (hdr.frozen (p := ⟨w.heap.size + 1, 0, none⟩) (by simp only []; omega)).trans r_f0
    replace r_f1 := (hdr.frozen (p := ⟨w.heap.size + 1, 1, none⟩) (by simp only []; omega)).trans r_f1
    replace r_f2 := (hdr.frozen (p := ⟨w.heap.size + 1, 2, none⟩) (by simp only []; omega)).trans r_f2
    by_cases hlt : j < un
    · go_wp2_with fail
      refine (HV.out _ hb3).mono ?_
      rintro e w9 ⟨rfl, z9⟩
      have s4 := z9.size
      have hb4 := on hb3 z9
      replace b_0 := (z9.cell (p := ⟨w.heap.size, 0, none⟩) (by simp only []; omega)).trans b_0
      replace b_f0 := (z9.frozen (p := ⟨w.heap.size, 0, none⟩) (by simp only []; omega)).trans b_f0
      replace r_0 := (z9.cell (p := ⟨w.heap.size + 1, 0, none⟩) (by simp only []; omega)).trans r_0
      replace r_1 := (z9.cell (p := ⟨w.heap.size + 1, 1, none⟩) (by simp only []; omega)).trans r_1
      replace r_2 := (z9.cell (p := ⟨w.heap.size + 1, 2, none⟩) (by simp only []; omega)).trans r_2
      replace r_f0 := (z9.frozen (p := ⟨w.heap.size + 1, 0, none⟩) (by simp only []; omega)).trans r_f0
      replace r_f1 := (z9.frozen (p := ⟨w.heap.size + 1, 1, none⟩) (by simp only []; omega)).trans r_f1
      replace r_f2 := (z9.frozen (p := ⟨w.heap.size + 1, 2, none⟩) (by simp only []; omega)).trans r_f2
      replace hlc := on hlc z9
      obtain ⟨b1, o1, cs, t', rfl, hx, hr, hc⟩ := t1.at hlt
      by_cases hne : t'.1 = name
      · have h8 := hE.out.trans (idxFrom_yes hx.out hne)
        rw [HI.out] at h8
        obtain rfl : k = j := by omega
        obtain rfl : t' = t := by have h9 := hx.out; rw [HK.out] at h9; exact (Option.some.inj h9).symm
        have hcp := fun W (hW : Below w.heap.size w W) => l4Copy_any cs t' W (rT.mono hr hW) (by omega)
        have hq9 : (t'.1.toList == name.toList) = true := by rw [hne]; simp
        obtain ⟨s, i, rows⟩ := t'
        obtain ⟨tb, tn, tc, rfl, hs, hi, g2⟩ := rT_open hr
        simp only at hs hi g2 hcp hq9
        have HP := Lib.hid hcp
        have e_lt : b1 < w.heap.size := cell_lt (hc 0 _ rfl)
        have e_0 : w9.cell? ⟨b1, o1 + k * 3, none⟩ = some (.string s) := (hb4.cell (p := ⟨b1, o1 + k * 3, none⟩) e_lt).trans (by have h9 := hc 0 _ rfl; rw [← Nat.add_assoc] at h9; exact h9)
        have e_1 : w9.cell? ⟨b1, o1 + k * 3 + 1, none⟩ = some (.int .i64 i) := (hb4.cell (p := ⟨b1, o1 + k * 3 + 1, none⟩) e_lt).trans (by have h9 := hc 1 _ rfl; rw [← Nat.add_assoc] at h9; exact h9)
        have e_2 : w9.cell? ⟨b1, o1 + k * 3 + 2, none⟩ = some (.slice tb tn tc) := (hb4.cell (p := ⟨b1, o1 + k * 3 + 2, none⟩) e_lt).trans (by have h9 := hc 2 _ rfl; rw [← Nat.add_assoc] at h9; exact h9)
        clear hcp hE hx hr hc g2 t1 hs hi hne h8
        go_wp2_with fail
        refine (HP.out _ hb4).mono ?_
        rintro e w11 ⟨ds, rfl, ho, z11⟩
        obtain ⟨vb, vn, vc, rfl⟩ := oT_form ho
        simp only at ho
        have s5 := z11.size
        have hb5 := on hb4 z11
        replace b_0 := (z11.cell (p := ⟨w.heap.size, 0, none⟩) (by simp only []; omega)).trans b_0
        replace b_f0 := (z11.frozen (p := ⟨w.heap.size, 0, none⟩) (by simp only []; omega)).trans b_f0
        replace r_0 := (z11.cell (p := ⟨w.heap.size + 1, 0, none⟩) (by simp only []; omega)).trans r_0
        replace r_1 := (z11.cell (p := ⟨w.heap.size + 1, 1, none⟩) (by simp only []; omega)).trans r_1
        replace r_2 := (z11.cell (p := ⟨w.heap.size + 1, 2, none⟩) (by simp only []; omega)).trans r_2
        replace r_f0 := (z11.frozen (p := ⟨w.heap.size + 1, 0, none⟩) (by simp only []; omega)).trans r_f0
        replace r_f1 := (z11.frozen (p := ⟨w.heap.size + 1, 1, none⟩) (by simp only []; omega)).trans r_f1
        replace r_f2 := (z11.frozen (p := ⟨w.heap.size + 1, 2, none⟩) (by simp only []; omega)).trans r_f2
        replace hlc := on hlc z11
        replace e_0 := (z11.cell (p := ⟨b1, o1 + k * 3, none⟩) (by simp only []; omega)).trans e_0
        replace e_1 := (z11.cell (p := ⟨b1, o1 + k * 3 + 1, none⟩) (by simp only []; omega)).trans e_1
        replace e_2 := (z11.cell (p := ⟨b1, o1 + k * 3 + 2, none⟩) (by simp only []; omega)).trans e_2
        go_wp2_with fail
        refine bodyPost_ret (v := .tuple #[.agg #[.string s, .int .i64 i, .slice vb vn vc], .bool true]) (by simp [results, Try.results104, go_sem, r_0, r_1, r_2, r_f0, r_f1, r_f2]) rfl ⟨_, rfl, ?_, ?_⟩
        · refine Own.mono (lo := w9.heap.size) (hi := w11.heap.size) ?_ (by omega) (by simp [World.setCell])
          repeat (refine Own.setOut ?_ rfl (by simp only []; omega))
          exact ho
        · repeat (refine Below.setCell ?_ (by simp only []; omega) _)
          exact hb5
      · have HE : Hid (idxFrom name 0 db = idxFrom name (j + 1) (db.drop (j + 1))) := Lib.hid (hE.out.trans (idxFrom_no hx.out hne))
        have hq9 := bytes_ne hne
        obtain ⟨s, i, rows⟩ := t'
        obtain ⟨tb, tn, tc, rfl, hs, hi, g2⟩ := rT_open hr
        simp only at hs hi g2 hq9
        have e_lt : b1 < w.heap.size := cell_lt (hc 0 _ rfl)
        have e_0 : w9.cell? ⟨b1, o1 + j * 3, none⟩ = some (.string s) := (hb4.cell (p := ⟨b1, o1 + j * 3, none⟩) e_lt).trans (by have h9 := hc 0 _ rfl; rw [← Nat.add_assoc] at h9; exact h9)
        have e_1 : w9.cell? ⟨b1, o1 + j * 3 + 1, none⟩ = some (.int .i64 i) := (hb4.cell (p := ⟨b1, o1 + j * 3 + 1, none⟩) e_lt).trans (by have h9 := hc 1 _ rfl; rw [← Nat.add_assoc] at h9; exact h9)
        have e_2 : w9.cell? ⟨b1, o1 + j * 3 + 2, none⟩ = some (.slice tb tn tc) := (hb4.cell (p := ⟨b1, o1 + j * 3 + 2, none⟩) e_lt).trans (by have h9 := hc 2 _ rfl; rw [← Nat.add_assoc] at h9; exact h9)
        clear hE hx hr hc g2 t1 hs hi hne
        go_wp2_with fail
        go_roundw
        case rel => exact ⟨j + 1, by omega, by go_num, HE.out, hlc⟩
        case measure => simp [intOf]; omega
    · have h8 := hE.out.trans (idxFrom_end (by have := HL.out; omega))
      rw [HI.out] at h8
      omega

end Go.Proofs.Ytkipgbgkhffkkaa

/- Contracts: the variables of a mask, by the program; shared variables. -/
namespace Go.Proofs.Ytkipgbgkhffkkaa
open Go.RowKit
set_option linter.unusedVariables false
set_option linter.unusedSimpArgs false
set_option synthInstance.maxSize 2000
set_option synthInstance.maxHeartbeats 400000

theorem own_empty' {B : Nat} {W : World} {g : Nat} (hB : B ≤ W.heap.size) (hg : W.heap.size = g) : OwnInts B (W.alloc (.cells #[] 3)) (.slice (some ⟨g, 0, none⟩) 0 0) 0 [] := by
  subst hg; exact own_empty hB

theorem wpList_app1g {B : Nat} {w0 W : World} {ops : Array Oper} {rest : List Oper} {o : Oper} {a : Act} {Q : Exit → Act → World → Prop}
    (s x : Operand) (v : Value) (n g : Nat) (xs : List Int) (u : Int)
    (hown : OwnInts B W v n xs) (hb : Below B w0 W) (hB : B ≤ W.heap.size) (hu : I64 u) (hn : n ≤ 1000000000000) (hg : W.heap.size = g)
    (hgd : o.guard = none) (ho : o.op = .call { callee := .builtin .append, args := #[s, x], argTypes := #[44, 44] })
    (hs : a.eval s = v) (hx : a.eval x = .slice (some ⟨g, 0, none⟩) 1 1)
    (h : ∀ v' w', OwnInts B w' v' (n + 1) (xs ++ [u]) → Below B w0 w' → B ≤ w'.heap.size → wpList Try.prog ops Q rest (a.put o.dst v') w') :
    wpList Try.prog ops Q (o :: rest) a (W.alloc (.cells #[.int .i64 u] 3)) := by
  subst hg
  exact wpList_app1 s x v n xs u hown hb hB hu hn hgd ho hs hx h

set_option maxHeartbeats 2000000 in
theorem variables_any (cs : List Value) (x : DQ) (K n : Nat) (w : World) (h : rQ.rep w cs x) (hq : QOk x n) (hK : K < 16) :
    Calls Try.prog 126 #[.agg cs.toArray, .int .i64 K] w fun e w' => ∃ u, e = .returned u ∧ Own oI w.heap.size w'.heap.size w' [u] (varsOf x K) ∧ Below w.heap.size w w' := by
  obtain ⟨ub, un, uc, rfl, hi, g1⟩ := rQ_open h
  clear h hi
  obtain ⟨i, xs⟩ := x
  simp only at g1
  have t0 := rS_sl g1
  have hl := t0.len
  have hn4 := hq.le
  have hl4 := hq.len
  have hcnt := hq.cnt
  simp only at hl4 hcnt
  subst hcnt
  have hun : un ≤ 4 := by omega
  have HQ := Lib.hid hq
  obtain ⟨M, hM⟩ : ∃ M, M = bitsOf ((n : Int), xs) K := ⟨_, rfl⟩
  have HV := Lib.hid (show bitsTo M n = varsOf ((n : Int), xs) K by rw [hq.varsOf K, hM])
  have HS := Lib.hid (show ∀ v, bitAt M v = someFrom K v 0 (xs.drop 0) by intro v; rw [hM]; exact hq.some K v)
  clear hq hl4 hM
  have hb0 : Below w.heap.size w w := Below.refl _ _
  go_enter Try.func126, Try.ntmps126
  obtain ⟨w1, hw1⟩ : ∃ W, W = w.alloc (.cells #[.int .i64 n, .slice ub un uc] 37) := ⟨_, rfl⟩
  have z1 : Below w.heap.size w w1 := by rw [hw1]; exact (Below.refl _ _).alloc (Nat.le_refl _) _
  have s1 : w1.heap.size = w.heap.size + 1 := by rw [hw1]; simp
  have hb1 := on hb0 z1
  have b_0 : w1.cell? ⟨w.heap.size, 0, none⟩ = some (.int .i64 n) := by rw [hw1]; exact box_cell (Below.refl _ _) rfl
  have b_1 : w1.cell? ⟨w.heap.size, 1, none⟩ = some (.slice ub un uc) := by rw [hw1]; exact box_cell (Below.refl _ _) rfl
  have raw1_b_0 := b_0
  have raw1_b_1 := b_1
  rw [hw1] at raw1_b_0 raw1_b_1
  go_wp2_with fail
  rw [← hw1]
  clear hw1
  clear raw1_b_0 raw1_b_1
  go_loopw [5, 6] (fun s k wr => ∃ j q : Nat, j ≤ n ∧ k = .int .i64 j ∧ OwnInts w1.heap.size wr s q (bitsTo M j) ∧ Below w1.heap.size w1 wr) (fun _ k _ => n - (intOf k).toNat)
  case atStart => exact ⟨0, 0, Nat.zero_le _, rfl, own_empty' (Nat.le_refl _) (by omega), (Below.refl _ _).alloc (Nat.le_refl _) _⟩
  case round =>
    obtain ⟨j, q, hj, rfl, hown, hdr⟩ := hrel
    obtain ⟨wo, rfl⟩ : ∃ W, W = wr := ⟨_, rfl⟩
    have hlc := hdr
    have s2 := hdr.size
    have hb2 := on hb1 hdr
    replace b_0 := (hdr.cell (p := ⟨w.heap.size, 0, none⟩) (by simp only []; omega)).trans b_0
    replace b_1 := (hdr.cell (p := ⟨w.heap.size, 1, none⟩) (by simp only []; omega)).trans b_1
    have hq4 : q ≤ 4 := by have := hown.len; have := bitsTo_len M j; omega
    by_cases hlt : j < n
    · go_wp2_with fail
      obtain ⟨a, cap, rfl, hqs, hqa⟩ := own_form hown.row
      go_loopw [5, 19] (fun s k wr => ∃ i' : Nat, i' ≤ un ∧ k = .int .i64 i' ∧ s = .slice a q cap ∧ Hid (bitAt M j = someFrom K j i' (xs.drop i')) ∧ Below wo.heap.size wo wr) (fun _ k _ => un - (intOf k).toNat)
      case atStart => exact ⟨0, Nat.zero_le _, rfl, rfl, HS.out j, Below.refl _ _⟩
      case round =>
        obtain ⟨i', hi, rfl, rfl, hE, hdr⟩ := hrel
        have hld := hdr
        have s3 := hdr.size
        have hb3 := on hb2 hdr
        replace b_0 := (hdr.cell (p := ⟨w.heap.size, 0, none⟩) (by simp only []; omega)).trans b_0
        replace b_1 := (hdr.cell (p := ⟨w.heap.size, 1, none⟩) (by simp only []; omega)).trans b_1
        replace hlc := on hlc hdr
        replace hown := hown.below hdr
        by_cases hlv : i' < un
        · obtain ⟨b1, o1, cs, x, rfl, hx, hr, hc⟩ := t0.at hlv
          obtain ⟨s, vs⟩ := x
          obtain ⟨vb, vn, vc, rfl, hs, g2⟩ := rA_open hr
          simp only at hs g2
          have e_lt : b1 < w.heap.size := cell_lt (hc 0 _ rfl)
          have e_0 : wr.cell? ⟨b1, o1 + i' * 2, none⟩ = some (.string s) := (hb3.cell (p := ⟨b1, o1 + i' * 2, none⟩) e_lt).trans (by have h9 := hc 0 _ rfl; rw [← Nat.add_assoc] at h9; exact h9)
          have e_1 : wr.cell? ⟨b1, o1 + i' * 2 + 1, none⟩ = some (.slice vb vn vc) := (hb3.cell (p := ⟨b1, o1 + i' * 2 + 1, none⟩) e_lt).trans (by have h9 := hc 1 _ rfl; rw [← Nat.add_assoc] at h9; exact h9)
          have HA := Lib.hid (hE.out.trans (someFrom_at hx.out))
          clear hc t0 hr hl hx hE HV HS
          simp only at HA
          obtain ⟨w4, hw4⟩ : ∃ W, W = wr.alloc (.cells #[.string s, .slice vb vn vc] 110) := ⟨_, rfl⟩
          have z4 : Below wr.heap.size wr w4 := by rw [hw4]; exact (Below.refl _ _).alloc (Nat.le_refl _) _
          have s4 : w4.heap.size = wr.heap.size + 1 := by rw [hw4]; simp
          have hb4 := on hb3 z4
          have old4_b_0 := b_0
          have old4_b_1 := b_1
          have old4_e_0 := e_0
          have old4_e_1 := e_1
          replace b_0 := (z4.cell (p := ⟨w.heap.size, 0, none⟩) (by simp only []; omega)).trans b_0
          replace b_1 := (z4.cell (p := ⟨w.heap.size, 1, none⟩) (by simp only []; omega)).trans b_1
          replace hlc := on hlc z4
          replace hown := hown.below z4
          replace hld := on hld z4
          replace e_0 := (z4.cell (p := ⟨b1, o1 + i' * 2, none⟩) (by simp only []; omega)).trans e_0
          replace e_1 := (z4.cell (p := ⟨b1, o1 + i' * 2 + 1, none⟩) (by simp only []; omega)).trans e_1
          have p_0 : w4.cell? ⟨wr.heap.size, 0, none⟩ = some (.string s) := by rw [hw4]; exact box_cell (Below.refl _ _) rfl
          have p_1 : w4.cell? ⟨wr.heap.size, 1, none⟩ = some (.slice vb vn vc) := by rw [hw4]; exact box_cell (Below.refl _ _) rfl
          have raw4_b_0 := b_0
          have raw4_b_1 := b_1
          have raw4_e_0 := e_0
          have raw4_e_1 := e_1
          have raw4_p_0 := p_0
          have raw4_p_1 := p_1
          rw [hw4] at raw4_b_0 raw4_b_1 raw4_e_0 raw4_e_1 raw4_p_0 raw4_p_1
          have hbt := bit_test K i' (by omega)
          have hlt2 : (j : Int) < n := by omega
          cases hb : bitAt K i' with
          | true =>
            rw [hb] at HA hbt
            have i0 := (rI_ints g2).below hb4
            clear hb
            go_wp2_with fail
            rw [← hw4]
            clear hw4
            clear old4_b_0 old4_b_1 old4_e_0 old4_e_1 raw4_b_0 raw4_b_1 raw4_e_0 raw4_e_1 raw4_p_0 raw4_p_1
            refine (contains_any _ _ _ _ _ _ i0).mono ?_
            rintro e w' ⟨rfl, rfl⟩
            obtain ⟨t, ht⟩ : ∃ t, t = has vs (j : Int) := ⟨_, rfl⟩
            rw [← ht] at HA ⊢
            clear ht i0
            cases t with
            | true =>
              have HB := Lib.hid (bitsTo_yes (show bitAt M j = true by rw [HA.out]; simp))
              have hsz := hlc.size
              go_wp2_with ((at_builtin; refine wpList_app1g _ _ _ _ _ _ _ hown hlc hsz ⟨by omega, by omega⟩ (by omega) (by omega) rfl rfl rfl rfl ?_; intro v' w9 hown' hb' hsz'))
              rw [← HB.out] at hown'
              go_roundw
              case rel => exact ⟨j + 1, q + 1, by omega, by go_num, hown', hb'⟩
              case measure => simp [intOf]; omega
            | false =>
              have HE := Lib.hid (show bitAt M j = someFrom K j (i' + 1) (xs.drop (i' + 1)) by rw [HA.out]; simp)
              go_wp2_with fail
              go_roundw
              case rel => exact ⟨i' + 1, by omega, by go_num, rfl, HE.out, hld⟩
              case measure => simp [intOf]; omega
          | false =>
            rw [hb] at HA hbt
            have HE := Lib.hid (show bitAt M j = someFrom K j (i' + 1) (xs.drop (i' + 1)) by rw [HA.out]; simp)
            clear hb HA
            go_wp2_with fail
            rw [← hw4]
            clear hw4
            clear old4_b_0 old4_b_1 old4_e_0 old4_e_1 raw4_b_0 raw4_b_1 raw4_e_0 raw4_e_1 raw4_p_0 raw4_p_1
            go_roundw
            case rel => exact ⟨i' + 1, by omega, by go_num, rfl, HE.out, hld⟩
            case measure => simp [intOf]; omega
        · rw [← bitsTo_no (hE.out.trans (someFrom_end (by omega)))] at hown
          have HO := Lib.hid hown
          clear t0 hl hE hown
          go_wp2_with fail
          go_roundw
          case rel => exact ⟨j + 1, q, by omega, by go_num, HO.out, hlc⟩
          case measure => simp [intOf]; omega
    · obtain rfl : j = n := by omega
      obtain ⟨a, cap, rfl, _⟩ := own_form hown.row
      rw [HV.out] at hown
      have HO := Lib.hid (show Own oI w.heap.size wo.heap.size wo [.slice a q cap] _ from hown.own.mono (by omega) (Nat.le_refl _))
      clear t0 hl hown
      go_wp2_with fail
      go_ret
      exact ⟨_, rfl, HO.out, hb2⟩

theorem maskVars_cnt (q : DQ) (k : Int) : cnt_I (maskVars q k) ≤ 4 := maskVars_len q k

set_option maxHeartbeats 1000000 in
theorem both_any (u v : Value) (xs ys : List Int) (w : World) (h : rI.rep w [u] xs) (h' : rI.rep w [v] ys) (hn : xs.length ≤ 1048576) :
    Calls Try.prog 127 #[u, v] w fun e w' => ∃ u, e = .returned u ∧ Own oI w.heap.size w'.heap.size w' [u] (both xs ys) ∧ Below w.heap.size w w' := by
  obtain ⟨a, cap, rfl, _, _, hi⟩ := rI_open h
  obtain ⟨a', cap', rfl, _, _, hi'⟩ := rI_open h'
  clear h h'
  obtain ⟨n, hl⟩ : ∃ n, xs.length = n := ⟨_, rfl⟩
  rw [hl] at hi hn ⊢
  go_enter Try.func127, Try.ntmps127
  go_wp2
  go_loopw [5, 11] (fun v i wr => ∃ (j : Nat), j ≤ n ∧ i = .int .i64 j ∧ ∃ q, OwnInts w.heap.size wr v q (both (xs.take j) ys) ∧ Below w.heap.size w wr) (fun _ i _ => n - (intOf i).toNat)
  case atStart => exact ⟨0, Nat.zero_le _, rfl, 0, by rw [List.take_zero]; exact own_empty (Nat.le_refl _), (Below.refl _ _).alloc (Nat.le_refl _) _⟩
  case round =>
    obtain ⟨j, hj, rfl, q, hown, hbl⟩ := hrel
    have hsz := hbl.size
    replace hi := hi.below hbl
    replace hi' := hi'.below hbl
    have hq : q ≤ 1048576 := by have := hown.len; have := both_len (xs.take j) ys; have : (xs.take j).length ≤ j := List.length_take_le _ _; omega
    by_cases hlt : j < n
    · obtain ⟨b1, off, x, rfl, hc, hx, hx1, hx2⟩ := hi.get hlt
      have hcall := contains_any _ _ cap' _ x _ hi'
      obtain ⟨t, ht⟩ : ∃ t, t = has ys x := ⟨_, rfl⟩
      rw [← ht] at hcall
      have HC := Lib.hid hcall
      clear hcall
      cases t with
      | true =>
        have HB := Lib.hid (both_yes (show j < xs.length by omega) hx.out ht.symm)
        clear ht hi hl
        go_wp2_with (first
          | (go_at_call 122; refine (HC.out).mono ?_; rintro e w' ⟨rfl, rfl⟩)
          | (at_builtin; refine wpList_app1 _ _ _ _ _ _ hown hbl hsz ⟨by omega, by omega⟩ (by omega) rfl rfl rfl rfl ?_; intro v' w1 hown' hb' hsz'))
        rw [← HB.out] at hown'
        go_roundw
        case rel => exact ⟨j + 1, by omega, by go_num, q + 1, hown', hb'⟩
        case measure => simp [intOf]; omega
      | false =>
        rw [← both_no (show j < xs.length by omega) hx.out ht.symm] at hown
        have HO := Lib.hid hown
        clear ht hi hl hown
        go_wp2_with (first
          | (go_at_call 122; refine (HC.out).mono ?_; rintro e w' ⟨rfl, rfl⟩))
        go_roundw
        case rel => exact ⟨j + 1, by omega, by go_num, q, HO.out, hbl⟩
        case measure => simp [intOf]; omega
    · obtain rfl : j = n := by omega
      obtain ⟨a', cap2, rfl, _⟩ := own_form hown.row
      rw [both_end (by omega)] at hown
      have HO := Lib.hid hown
      clear hown hi hi' hl
      go_wp2
      go_ret
      exact ⟨_, rfl, HO.out.own, hbl⟩

end Go.Proofs.Ytkipgbgkhffkkaa

/- Contracts: tables looked up (4): one contract a side. -/
namespace Go.Proofs.Ytkipgbgkhffkkaa
open Go.RowKit Go.Sort
set_option linter.unusedVariables false
set_option linter.unusedSimpArgs false
set_option synthInstance.maxSize 2000
set_option synthInstance.maxHeartbeats 400000

/-- The table that is handed back. -/
def lookT (o : Option DT) : DT := o.getD (⟨#[]⟩, 0, [])
theorem lookT_ar {db : DDb} {name : ByteArray} : 0 ≤ (lookT (look db name)).2.1 ∧ (lookT (look db name)).2.1 ≤ 3 := by
  cases h : look db name with
  | none => simp [lookT]
  | some t => have := (look_ok h).ar; simp only [lookT, Option.getD_some]; omega
theorem own_noT (lo hi : Nat) (w : World) : Own oT lo hi w [.string ⟨#[]⟩, .int .i64 0, .slice none 0 0] (⟨#[]⟩, 0, []) :=
  oT_mk (x := (⟨#[]⟩, 0, [])) (by decide) (show I64 0 from by unfold I64; omega) (l2 := lo) (m2 := hi) (Acc.nil (lo := lo) (S := lo) (hi := hi) |>.own (Nat.le_refl _) (Nat.le_refl _) (Nat.le_refl _)) (Nat.le_refl _) (Nat.le_refl _)

theorem lookI_any (cs : List Value) (db : DDb) (name : ByteArray) (w : World) (h : rDb.rep w cs db) :
    Calls Try.prog 144 #[.agg cs.toArray, .string name] w fun e w' => ∃ vb vn vc, e = .returned (.tuple #[.agg #[.string (lookT (look db name)).1, .int .i64 (lookT (look db name)).2.1, .slice vb vn vc], .bool (look db name).isSome]) ∧ Own oT w.heap.size w'.heap.size w' [.string (lookT (look db name)).1, .int .i64 (lookT (look db name)).2.1, .slice vb vn vc] (lookT (look db name)) ∧ Below w.heap.size w w' := by
  cases hL : look db name with
  | none =>
    refine (lookI_none cs db name w h hL).mono ?_
    rintro e w1 ⟨rfl, z⟩
    exact ⟨none, 0, 0, rfl, own_noT _ _ _, z⟩
  | some t =>
    refine (lookI_some cs db name t w h hL).mono ?_
    rintro e w1 ⟨ds, rfl, ho, z⟩
    obtain ⟨vb, vn, vc, rfl⟩ := oT_form ho
    exact ⟨vb, vn, vc, rfl, ho, z⟩

theorem lookS_any (cs : List Value) (db : DDb) (name : ByteArray) (w : World) (h : rDb.rep w cs db) :
    Calls Try.prog 104 #[.agg cs.toArray, .string name] w fun e w' => ∃ vb vn vc, e = .returned (.tuple #[.agg #[.string (lookT (look db name)).1, .int .i64 (lookT (look db name)).2.1, .slice vb vn vc], .bool (look db name).isSome]) ∧ Own oT w.heap.size w'.heap.size w' [.string (lookT (look db name)).1, .int .i64 (lookT (look db name)).2.1, .slice vb vn vc] (lookT (look db name)) ∧ Below w.heap.size w w' := by
  cases hL : look db name with
  | none =>
    refine (lookS_none cs db name w h hL).mono ?_
    rintro e w1 ⟨rfl, z⟩
    exact ⟨none, 0, 0, rfl, own_noT _ _ _, z⟩
  | some t =>
    refine (lookS_some cs db name t w h hL).mono ?_
    rintro e w1 ⟨ds, rfl, ho, z⟩
    obtain ⟨vb, vn, vc, rfl⟩ := oT_form ho
    exact ⟨vb, vn, vc, rfl, ho, z⟩

end Go.Proofs.Ytkipgbgkhffkkaa

/- Contracts: whether a query is one for a database. -/
namespace Go.Proofs.Ytkipgbgkhffkkaa
open Go.RowKit Go.Sort
set_option linter.unusedVariables false
set_option linter.unusedSimpArgs false
set_option synthInstance.maxSize 2000
set_option synthInstance.maxHeartbeats 400000

/-- Whether atoms are for tables of a database. -/
def forFrom (db : DDb) : List DA → Bool
  | [] => true
  | a :: t => (look db a.1).isSome && (decide ((lookT (look db a.1)).2.1 = (a.2.length : Int)) && forFrom db t)
/-- Whether a query is valid, and for a database. -/
def queryFor (db : DDb) (q : DQ) : Bool := validQ q && forFrom db q.2
theorem for_at {db : DDb} {xs : List DA} {j : Nat} {a : DA} (h : xs[j]? = some a) : forFrom db (xs.drop j) = ((look db a.1).isSome && (decide ((lookT (look db a.1)).2.1 = (a.2.length : Int)) && forFrom db (xs.drop (j + 1)))) := by
  rw [drop_at h]; rfl
theorem for_end {db : DDb} {xs : List DA} {j : Nat} (h : xs.length ≤ j) : forFrom db (xs.drop j) = true := by
  rw [List.drop_eq_nil_of_le h]; rfl
/-- What a new block leaves. -/
theorem cell_box {W : World} {p : Addr} {v : Value} {x : Obj} (h : W.cell? p = some v) : (W.alloc x).cell? p = some v :=
  (((Below.refl W.heap.size W).alloc (Nat.le_refl _) x).cell (cell_lt h)).trans h
theorem cell_setBox {W : World} {p q : Addr} {v u : Value} (h : W.cell? p = some v) (hp : p.block < q.block) : (W.setCell q u).cell? p = some v :=
  ((Below.setCell (Below.refl q.block W) (Nat.le_refl _) u).cell hp).trans h
theorem cell_set3 {W : World} {p : Addr} {v u0 u1 u2 : Value} {g o0 o1 o2 : Nat} (h : W.cell? p = some v) (hp : p.block < g) : (((W.setCell ⟨g, o0, none⟩ u0).setCell ⟨g, o1, none⟩ u1).setCell ⟨g, o2, none⟩ u2).cell? p = some v :=
  cell_setBox (cell_setBox (cell_setBox h hp) hp) hp

set_option maxHeartbeats 2000000 in
theorem queryFor_impl (cs ds : List Value) (db : DDb) (x : DQ) (w : World) (h : rDb.rep w cs db) (h' : rQ.rep w ds x) :
    Calls Try.prog 108 #[.agg cs.toArray, .agg ds.toArray] w fun e w' => e = .returned (.bool (queryFor db x)) ∧ Below w.heap.size w w' := by
  obtain ⟨ub, un, uc, rfl, g1⟩ := rDb_open h
  obtain ⟨qb, qn, qc, rfl, hi2, gq⟩ := rQ_open h'
  have hcq := fun W (hW : Below w.heap.size w W) => validQ_impl _ x W (rQ.mono h' hW)
  have hck := fun name W (hW : Below w.heap.size w W) => lookI_any [.slice ub un uc] db name W (rDb.mono h hW)
  obtain ⟨vq, xs⟩ := x
  simp only at hi2 gq hcq
  have t1 := rS_sl gq
  have hl := t1.len
  have hn := t1.small
  obtain ⟨p, hp⟩ : ∃ p, validQ (vq, xs) = p := ⟨_, rfl⟩
  have HV : Hid (queryFor db (vq, xs) = (p && forFrom db (xs.drop 0))) := Lib.hid (by simp [queryFor, hp])
  simp only [hp] at hcq
  have HCQ := Lib.hid hcq
  have HCK := Lib.hid hck
  clear hcq hck h h' g1 gq hi2 hp
  have hb0 : Below w.heap.size w w := Below.refl _ _
  go_enter Try.func108, Try.ntmps108
  obtain ⟨w1, hw1⟩ : ∃ W, W = w.alloc (.cells #[.slice ub un uc] 33) := ⟨_, rfl⟩
  have z1 : Below w.heap.size w w1 := by rw [hw1]; exact (Below.refl _ _).alloc (Nat.le_refl _) _
  have s1 : w1.heap.size = w.heap.size + 1 := by rw [hw1]; simp
  have hb1 := on hb0 z1
  have b_0 : w1.cell? ⟨w.heap.size, 0, none⟩ = some (.slice ub un uc) := by rw [hw1]; exact box_cell (Below.refl _ _) rfl
  have raw1_b_0 := b_0
  rw [hw1] at raw1_b_0
  obtain ⟨w2, hw2⟩ : ∃ W, W = w1.alloc (.cells #[.int .i64 vq, .slice qb qn qc] 37) := ⟨_, rfl⟩
  have z2 : Below w1.heap.size w1 w2 := by rw [hw2]; exact (Below.refl _ _).alloc (Nat.le_refl _) _
  have s2 : w2.heap.size = w1.heap.size + 1 := by rw [hw2]; simp
  have hb2 := on hb1 z2
  replace b_0 := (z2.cell (p := ⟨w.heap.size, 0, none⟩) (by simp only []; omega)).trans b_0
  have e2 : w1.heap.size = w.heap.size + 1 := by omega
  have q_0 : w2.cell? ⟨w1.heap.size, 0, none⟩ = some (.int .i64 vq) := by rw [hw2]; exact box_cell (Below.refl _ _) rfl
  have q_1 : w2.cell? ⟨w1.heap.size, 1, none⟩ = some (.slice qb qn qc) := by rw [hw2]; exact box_cell (Below.refl _ _) rfl
  rw [e2] at q_0 q_1
  have raw2_b_0 := b_0
  have raw2_q_0 := q_0
  have raw2_q_1 := q_1
  rw [hw2, hw1] at raw2_b_0 raw2_q_0 raw2_q_1
  go_wp2_with fail
  rw [← hw1]
  rw [← hw2]
  clear hw2 hw1
  clear raw1_b_0 raw2_b_0 raw2_q_0 raw2_q_1
  refine (HCQ.out _ hb2).mono ?_
  rintro e w9 ⟨rfl, z9⟩
  have s3 := z9.size
  have hb3 := on hb2 z9
  replace b_0 := (z9.cell (p := ⟨w.heap.size, 0, none⟩) (by simp only []; omega)).trans b_0
  replace q_0 := (z9.cell (p := ⟨w.heap.size + 1, 0, none⟩) (by simp only []; omega)).trans q_0
  replace q_1 := (z9.cell (p := ⟨w.heap.size + 1, 1, none⟩) (by simp only []; omega)).trans q_1
  cases p with
  | false =>
    go_wp2_with fail
    go_wp2_with fail
    go_ret
    exact ⟨ret_bool (by rw [HV.out]; rfl), hb3⟩
  | true =>
    have HV2 : Hid (queryFor db (vq, xs) = forFrom db (xs.drop 0)) := Lib.hid (by rw [HV.out]; simp)
    clear HV
    go_wp2_with fail
    go_loopw [15] (fun k wr => ∃ j : Nat, j ≤ qn ∧ k = .int .i64 j ∧ Hid (queryFor db (vq, xs) = forFrom db (xs.drop j)) ∧ Below w9.heap.size w9 wr) (fun k _ => qn - (intOf k).toNat)
    case atStart => exact ⟨0, Nat.zero_le _, rfl, HV2.out, Below.refl _ _⟩
    case round =>
      obtain ⟨j, hj, rfl, hE, hdr⟩ := hrel
      have hlc := hdr
      have s4 := hdr.size
      have hb4 := on hb3 hdr
      replace b_0 := (hdr.cell (p := ⟨w.heap.size, 0, none⟩) (by simp only []; omega)).trans b_0
      replace q_0 := (hdr.cell (p := ⟨w.heap.size + 1, 0, none⟩) (by simp only []; omega)).trans q_0
      replace q_1 := (hdr.cell (p := ⟨w.heap.size + 1, 1, none⟩) (by simp only []; omega)).trans q_1
      by_cases hlt : j < qn
      · obtain ⟨b1, o1, cs, a, rfl, hx, hr, hc⟩ := t1.at hlt
        obtain ⟨m1, vs⟩ := a
        obtain ⟨vb, vn, vc, rfl, hs, gv⟩ := rA_open hr
        simp only at hs gv
        have hvl := (rI_ints gv).len
        have hA := @lookT_ar db m1
        have HA := Lib.hid (hE.out.trans (for_at hx.out))
        simp only at HA
        have hc1 := fun W (hW : Below w.heap.size w W) => HCK.out m1 W hW
        obtain ⟨s, hs9⟩ : ∃ s, (look db m1).isSome = s := ⟨_, rfl⟩
        obtain ⟨t, ht⟩ : ∃ t, lookT (look db m1) = t := ⟨_, rfl⟩
        rw [hs9, ht, hvl] at HA
        simp only [hs9, ht] at hc1 hA
        obtain ⟨ns, A, r1⟩ := t
        simp only at hA HA hc1
        have HC1 := Lib.hid hc1
        have e_lt : b1 < w.heap.size := cell_lt (hc 0 _ rfl)
        have e_0 : wr.cell? ⟨b1, o1 + j * 2, none⟩ = some (.string m1) := (hb4.cell (p := ⟨b1, o1 + j * 2, none⟩) e_lt).trans (by have h9 := hc 0 _ rfl; rw [← Nat.add_assoc] at h9; exact h9)
        have e_1 : wr.cell? ⟨b1, o1 + j * 2 + 1, none⟩ = some (.slice vb vn vc) := (hb4.cell (p := ⟨b1, o1 + j * 2 + 1, none⟩) e_lt).trans (by have h9 := hc 1 _ rfl; rw [← Nat.add_assoc] at h9; exact h9)
        clear hc hx hr gv hvl hs hs9 ht hc1 hE
        obtain ⟨w5, hw5⟩ : ∃ W, W = wr.alloc (.cells #[.string m1, .slice vb vn vc] 110) := ⟨_, rfl⟩
        have z5 : Below wr.heap.size wr w5 := by rw [hw5]; exact (Below.refl _ _).alloc (Nat.le_refl _) _
        have s5 : w5.heap.size = wr.heap.size + 1 := by rw [hw5]; simp
        have hb5 := on hb4 z5
        have old5_b_0 := b_0
        have old5_q_0 := q_0
        have old5_q_1 := q_1
        have old5_e_0 := e_0
        have old5_e_1 := e_1
        replace b_0 := (z5.cell (p := ⟨w.heap.size, 0, none⟩) (by simp only []; omega)).trans b_0
        replace q_0 := (z5.cell (p := ⟨w.heap.size + 1, 0, none⟩) (by simp only []; omega)).trans q_0
        replace q_1 := (z5.cell (p := ⟨w.heap.size + 1, 1, none⟩) (by simp only []; omega)).trans q_1
        replace hlc := on hlc z5
        replace e_0 := (z5.cell (p := ⟨b1, o1 + j * 2, none⟩) (by simp only []; omega)).trans e_0
        replace e_1 := (z5.cell (p := ⟨b1, o1 + j * 2 + 1, none⟩) (by simp only []; omega)).trans e_1
        have ab_0 : w5.cell? ⟨wr.heap.size, 0, none⟩ = some (.string m1) := by rw [hw5]; exact box_cell (Below.refl _ _) rfl
        have ab_1 : w5.cell? ⟨wr.heap.size, 1, none⟩ = some (.slice vb vn vc) := by rw [hw5]; exact box_cell (Below.refl _ _) rfl
        have raw5_b_0 := b_0
        have raw5_q_0 := q_0
        have raw5_q_1 := q_1
        have raw5_e_0 := e_0
        have raw5_e_1 := e_1
        have raw5_ab_0 := ab_0
        have raw5_ab_1 := ab_1
        rw [hw5] at raw5_b_0 raw5_q_0 raw5_q_1 raw5_e_0 raw5_e_1 raw5_ab_0 raw5_ab_1
        go_wp2_with fail
        rw [← hw5]
        clear hw5
        clear old5_b_0 old5_q_0 old5_q_1 old5_e_0 old5_e_1 raw5_b_0 raw5_q_0 raw5_q_1 raw5_e_0 raw5_e_1 raw5_ab_0 raw5_ab_1
        refine (HC1.out _ hb5).mono ?_
        rintro e w10 ⟨vb', vn', vc', rfl, _, z10⟩
        have s6 := z10.size
        have hb6 := on hb5 z10
        replace b_0 := (z10.cell (p := ⟨w.heap.size, 0, none⟩) (by simp only []; omega)).trans b_0
        replace q_0 := (z10.cell (p := ⟨w.heap.size + 1, 0, none⟩) (by simp only []; omega)).trans q_0
        replace q_1 := (z10.cell (p := ⟨w.heap.size + 1, 1, none⟩) (by simp only []; omega)).trans q_1
        replace hlc := on hlc z10
        replace e_0 := (z10.cell (p := ⟨b1, o1 + j * 2, none⟩) (by simp only []; omega)).trans e_0
        replace e_1 := (z10.cell (p := ⟨b1, o1 + j * 2 + 1, none⟩) (by simp only []; omega)).trans e_1
        replace ab_0 := (z10.cell (p := ⟨wr.heap.size, 0, none⟩) (by simp only []; omega)).trans ab_0
        replace ab_1 := (z10.cell (p := ⟨wr.heap.size, 1, none⟩) (by simp only []; omega)).trans ab_1
        obtain ⟨w7, hw7⟩ : ∃ W, W = w10.alloc (.cells #[.string ns, .int .i64 A, .slice vb' vn' vc'] 54) := ⟨_, rfl⟩
        have z7 : Below w10.heap.size w10 w7 := by rw [hw7]; exact (Below.refl _ _).alloc (Nat.le_refl _) _
        have s7 : w7.heap.size = w10.heap.size + 1 := by rw [hw7]; simp
        have hb7 := on hb6 z7
        have old7_b_0 := b_0
        have old7_q_0 := q_0
        have old7_q_1 := q_1
        have old7_e_0 := e_0
        have old7_e_1 := e_1
        have old7_ab_0 := ab_0
        have old7_ab_1 := ab_1
        replace b_0 := (z7.cell (p := ⟨w.heap.size, 0, none⟩) (by simp only []; omega)).trans b_0
        replace q_0 := (z7.cell (p := ⟨w.heap.size + 1, 0, none⟩) (by simp only []; omega)).trans q_0
        replace q_1 := (z7.cell (p := ⟨w.heap.size + 1, 1, none⟩) (by simp only []; omega)).trans q_1
        replace hlc := on hlc z7
        replace e_0 := (z7.cell (p := ⟨b1, o1 + j * 2, none⟩) (by simp only []; omega)).trans e_0
        replace e_1 := (z7.cell (p := ⟨b1, o1 + j * 2 + 1, none⟩) (by simp only []; omega)).trans e_1
        replace ab_0 := (z7.cell (p := ⟨wr.heap.size, 0, none⟩) (by simp only []; omega)).trans ab_0
        replace ab_1 := (z7.cell (p := ⟨wr.heap.size, 1, none⟩) (by simp only []; omega)).trans ab_1
        have t_0 : w7.cell? ⟨w10.heap.size, 0, none⟩ = some (.string ns) := by rw [hw7]; exact box_cell (Below.refl _ _) rfl
        have t_1 : w7.cell? ⟨w10.heap.size, 1, none⟩ = some (.int .i64 A) := by rw [hw7]; exact box_cell (Below.refl _ _) rfl
        have t_2 : w7.cell? ⟨w10.heap.size, 2, none⟩ = some (.slice vb' vn' vc') := by rw [hw7]; exact box_cell (Below.refl _ _) rfl
        have raw7_b_0 := b_0
        have raw7_q_0 := q_0
        have raw7_q_1 := q_1
        have raw7_e_0 := e_0
        have raw7_e_1 := e_1
        have raw7_ab_0 := ab_0
        have raw7_ab_1 := ab_1
        have raw7_t_0 := t_0
        have raw7_t_1 := t_1
        have raw7_t_2 := t_2
        rw [hw7] at raw7_b_0 raw7_q_0 raw7_q_1 raw7_e_0 raw7_e_1 raw7_ab_0 raw7_ab_1 raw7_t_0 raw7_t_1 raw7_t_2
        cases s with
        | false =>
          go_wp2_with fail
          rw [← hw7]
          clear hw7
          clear old7_b_0 old7_q_0 old7_q_1 old7_e_0 old7_e_1 old7_ab_0 old7_ab_1 raw7_b_0 raw7_q_0 raw7_q_1 raw7_e_0 raw7_e_1 raw7_ab_0 raw7_ab_1 raw7_t_0 raw7_t_1 raw7_t_2
          go_wp2_with fail
          go_ret
          exact ⟨ret_bool (by rw [HA.out]; rfl), hb7⟩
        | true =>
          by_cases hd : A = (vn : Int)
          · have hd2 : (A == (vn : Int)) = true := by rw [beq_iff_eq]; exact hd
            have HE : Hid (queryFor db (vq, xs) = forFrom db (xs.drop (j + 1))) := Lib.hid (by rw [HA.out, decide_eq_true hd]; simp)
            clear hd HA
            go_wp2_with fail
            rw [← hw7]
            clear hw7
            clear old7_b_0 old7_q_0 old7_q_1 old7_e_0 old7_e_1 old7_ab_0 old7_ab_1 raw7_b_0 raw7_q_0 raw7_q_1 raw7_e_0 raw7_e_1 raw7_ab_0 raw7_ab_1 raw7_t_0 raw7_t_1 raw7_t_2
            go_roundw
            case rel => exact ⟨j + 1, by omega, by go_num, HE.out, hlc⟩
            case measure => simp [intOf]; omega
          · have HE : Hid (queryFor db (vq, xs) = false) := Lib.hid (by rw [HA.out, decide_eq_false hd]; simp)
            have hd2 : (A == (vn : Int)) = false := by rw [beq_eq_false_iff_ne]; exact hd
            go_wp2_with fail
            rw [← hw7]
            clear hw7
            clear old7_b_0 old7_q_0 old7_q_1 old7_e_0 old7_e_1 old7_ab_0 old7_ab_1 raw7_b_0 raw7_q_0 raw7_q_1 raw7_e_0 raw7_e_1 raw7_ab_0 raw7_ab_1 raw7_t_0 raw7_t_1 raw7_t_2
            go_wp2_with fail
            go_ret
            exact ⟨ret_bool HE.out.symm, hb7⟩
      · have HE : Hid (queryFor db (vq, xs) = true) := Lib.hid (by rw [hE.out, for_end (by omega)])
        clear hE t1 hl
        go_wp2_with fail
        go_ret
        exact ⟨ret_bool HE.out.symm, hb4⟩

set_option maxHeartbeats 2000000 in
theorem queryFor_spec (cs ds : List Value) (db : DDb) (x : DQ) (w : World) (h : rDb.rep w cs db) (h' : rQ.rep w ds x) :
    Calls Try.prog 103 #[.agg cs.toArray, .agg ds.toArray] w fun e w' => e = .returned (.bool (queryFor db x)) ∧ Below w.heap.size w w' := by
  obtain ⟨ub, un, uc, rfl, g1⟩ := rDb_open h
  obtain ⟨qb, qn, qc, rfl, hi2, gq⟩ := rQ_open h'
  have hcq := fun W (hW : Below w.heap.size w W) => validQ_spec _ x W (rQ.mono h' hW)
  have hck := fun name W (hW : Below w.heap.size w W) => lookS_any [.slice ub un uc] db name W (rDb.mono h hW)
  obtain ⟨vq, xs⟩ := x
  simp only at hi2 gq hcq
  have t1 := rS_sl gq
  have hl := t1.len
  have hn := t1.small
  obtain ⟨p, hp⟩ : ∃ p, validQ (vq, xs) = p := ⟨_, rfl⟩
  have HV : Hid (queryFor db (vq, xs) = (p && forFrom db (xs.drop 0))) := Lib.hid (by simp [queryFor, hp])
  simp only [hp] at hcq
  have HCQ := Lib.hid hcq
  have HCK := Lib.hid hck
  clear hcq hck h h' g1 gq hi2 hp
  have hb0 : Below w.heap.size w w := Below.refl _ _
  go_enter Try.func103, Try.ntmps103
  obtain ⟨w1, hw1⟩ : ∃ W, W = w.alloc (.cells #[.slice ub un uc] 33) := ⟨_, rfl⟩
  have z1 : Below w.heap.size w w1 := by rw [hw1]; exact (Below.refl _ _).alloc (Nat.le_refl _) _
  have s1 : w1.heap.size = w.heap.size + 1 := by rw [hw1]; simp
  have hb1 := on hb0 z1
  have b_0 : w1.cell? ⟨w.heap.size, 0, none⟩ = some (.slice ub un uc) := by rw [hw1]; exact box_cell (Below.refl _ _) rfl
  have raw1_b_0 := b_0
  rw [hw1] at raw1_b_0
  obtain ⟨w2, hw2⟩ : ∃ W, W = w1.alloc (.cells #[.int .i64 vq, .slice qb qn qc] 37) := ⟨_, rfl⟩
  have z2 : Below w1.heap.size w1 w2 := by rw [hw2]; exact (Below.refl _ _).alloc (Nat.le_refl _) _
  have s2 : w2.heap.size = w1.heap.size + 1 := by rw [hw2]; simp
  have hb2 := on hb1 z2
  replace b_0 := (z2.cell (p := ⟨w.heap.size, 0, none⟩) (by simp only []; omega)).trans b_0
  have e2 : w1.heap.size = w.heap.size + 1 := by omega
  have q_0 : w2.cell? ⟨w1.heap.size, 0, none⟩ = some (.int .i64 vq) := by rw [hw2]; exact box_cell (Below.refl _ _) rfl
  have q_1 : w2.cell? ⟨w1.heap.size, 1, none⟩ = some (.slice qb qn qc) := by rw [hw2]; exact box_cell (Below.refl _ _) rfl
  rw [e2] at q_0 q_1
  have raw2_b_0 := b_0
  have raw2_q_0 := q_0
  have raw2_q_1 := q_1
  rw [hw2, hw1] at raw2_b_0 raw2_q_0 raw2_q_1
  go_wp2_with fail
  rw [← hw1]
  rw [← hw2]
  clear hw2 hw1
  clear raw1_b_0 raw2_b_0 raw2_q_0 raw2_q_1
  refine (HCQ.out _ hb2).mono ?_
  rintro e w9 ⟨rfl, z9⟩
  have s3 := z9.size
  have hb3 := on hb2 z9
  replace b_0 := (z9.cell (p := ⟨w.heap.size, 0, none⟩) (by simp only []; omega)).trans b_0
  replace q_0 := (z9.cell (p := ⟨w.heap.size + 1, 0, none⟩) (by simp only []; omega)).trans q_0
  replace q_1 := (z9.cell (p := ⟨w.heap.size + 1, 1, none⟩) (by simp only []; omega)).trans q_1
  cases p with
  | false =>
    go_wp2_with fail
    go_wp2_with fail
    go_ret
    exact ⟨ret_bool (by rw [HV.out]; rfl), hb3⟩
  | true =>
    have HV2 : Hid (queryFor db (vq, xs) = forFrom db (xs.drop 0)) := Lib.hid (by rw [HV.out]; simp)
    clear HV
    go_wp2_with fail
    go_loopw [5] (fun k wr => ∃ j : Nat, j ≤ qn ∧ k = .int .i64 j ∧ Hid (queryFor db (vq, xs) = forFrom db (xs.drop j)) ∧ Below w9.heap.size w9 wr) (fun k _ => qn - (intOf k).toNat)
    case atStart => exact ⟨0, Nat.zero_le _, rfl, HV2.out, Below.refl _ _⟩
    case round =>
      obtain ⟨j, hj, rfl, hE, hdr⟩ := hrel
      have hlc := hdr
      have s4 := hdr.size
      have hb4 := on hb3 hdr
      replace b_0 := (hdr.cell (p := ⟨w.heap.size, 0, none⟩) (by simp only []; omega)).trans b_0
      replace q_0 := (hdr.cell (p := ⟨w.heap.size + 1, 0, none⟩) (by simp only []; omega)).trans q_0
      replace q_1 := (hdr.cell (p := ⟨w.heap.size + 1, 1, none⟩) (by simp only []; omega)).trans q_1
      by_cases hlt : j < qn
      · obtain ⟨b1, o1, cs, a, rfl, hx, hr, hc⟩ := t1.at hlt
        obtain ⟨m1, vs⟩ := a
        obtain ⟨vb, vn, vc, rfl, hs, gv⟩ := rA_open hr
        simp only at hs gv
        have hvl := (rI_ints gv).len
        have hA := @lookT_ar db m1
        have HA := Lib.hid (hE.out.trans (for_at hx.out))
        simp only at HA
        have hc1 := fun W (hW : Below w.heap.size w W) => HCK.out m1 W hW
        obtain ⟨s, hs9⟩ : ∃ s, (look db m1).isSome = s := ⟨_, rfl⟩
        obtain ⟨t, ht⟩ : ∃ t, lookT (look db m1) = t := ⟨_, rfl⟩
        rw [hs9, ht, hvl] at HA
        simp only [hs9, ht] at hc1 hA
        obtain ⟨ns, A, r1⟩ := t
        simp only at hA HA hc1
        have HC1 := Lib.hid hc1
        have e_lt : b1 < w.heap.size := cell_lt (hc 0 _ rfl)
        have e_0 : wr.cell? ⟨b1, o1 + j * 2, none⟩ = some (.string m1) := (hb4.cell (p := ⟨b1, o1 + j * 2, none⟩) e_lt).trans (by have h9 := hc 0 _ rfl; rw [← Nat.add_assoc] at h9; exact h9)
        have e_1 : wr.cell? ⟨b1, o1 + j * 2 + 1, none⟩ = some (.slice vb vn vc) := (hb4.cell (p := ⟨b1, o1 + j * 2 + 1, none⟩) e_lt).trans (by have h9 := hc 1 _ rfl; rw [← Nat.add_assoc] at h9; exact h9)
        clear hc hx hr gv hvl hs hs9 ht hc1 hE
        have hbd := (hb4).drew
        have hsz : wr.drew.heap.size = wr.heap.size := rfl
        have hbn : Below w.heap.size w (wr.alloc (.cells #[.string ⟨#[]⟩, .int .i64 0, .slice none 0 0] 54)).drew := ((hb4).alloc (by omega) _).drew
        have hsn : (wr.alloc (.cells #[.string ⟨#[]⟩, .int .i64 0, .slice none 0 0] 54)).drew.heap.size = wr.heap.size + 1 := by show (wr.alloc _).heap.size = _; simp
        have n_0 : (wr.alloc (.cells #[.string ⟨#[]⟩, .int .i64 0, .slice none 0 0] 54)).drew.cell? ⟨wr.heap.size, 0, none⟩ = some (.string ⟨#[]⟩) := box_cell (cs := #[.string ⟨#[]⟩, .int .i64 0, .slice none 0 0]) (T := 54) (i := 0) (Below.refl _ _).drew rfl
        have n_1 : (wr.alloc (.cells #[.string ⟨#[]⟩, .int .i64 0, .slice none 0 0] 54)).drew.cell? ⟨wr.heap.size, 1, none⟩ = some (.int .i64 0) := box_cell (cs := #[.string ⟨#[]⟩, .int .i64 0, .slice none 0 0]) (T := 54) (i := 1) (Below.refl _ _).drew rfl
        have n_2 : (wr.alloc (.cells #[.string ⟨#[]⟩, .int .i64 0, .slice none 0 0] 54)).drew.cell? ⟨wr.heap.size, 2, none⟩ = some (.slice none 0 0) := box_cell (cs := #[.string ⟨#[]⟩, .int .i64 0, .slice none 0 0]) (T := 54) (i := 2) (Below.refl _ _).drew rfl
        have f_0 : (wr.alloc (.cells #[.string ⟨#[]⟩, .int .i64 0, .slice none 0 0] 54)).drew.frozen? ⟨wr.heap.size, 0, none⟩ = false := box_frozen (cs := #[.string ⟨#[]⟩, .int .i64 0, .slice none 0 0]) (T := 54) (Below.refl _ _).drew
        have f_1 : (wr.alloc (.cells #[.string ⟨#[]⟩, .int .i64 0, .slice none 0 0] 54)).drew.frozen? ⟨wr.heap.size, 1, none⟩ = false := box_frozen (cs := #[.string ⟨#[]⟩, .int .i64 0, .slice none 0 0]) (T := 54) (Below.refl _ _).drew
        have f_2 : (wr.alloc (.cells #[.string ⟨#[]⟩, .int .i64 0, .slice none 0 0] 54)).drew.frozen? ⟨wr.heap.size, 2, none⟩ = false := box_frozen (cs := #[.string ⟨#[]⟩, .int .i64 0, .slice none 0 0]) (T := 54) (Below.refl _ _).drew
        have k_b_0 : (wr.alloc (.cells #[.string ⟨#[]⟩, .int .i64 0, .slice none 0 0] 54)).drew.cell? ⟨w.heap.size, 0, none⟩ = some (.slice ub un uc) := cell_box b_0
        have k_q_1 : (wr.alloc (.cells #[.string ⟨#[]⟩, .int .i64 0, .slice none 0 0] 54)).drew.cell? ⟨w.heap.size + 1, 1, none⟩ = some (.slice (some ⟨b1, o1, none⟩) qn qc) := cell_box q_1
        have k_e_0 : (wr.alloc (.cells #[.string ⟨#[]⟩, .int .i64 0, .slice none 0 0] 54)).drew.cell? ⟨b1, o1 + j * 2, none⟩ = some (.string m1) := cell_box e_0
        have k_e_1 : (wr.alloc (.cells #[.string ⟨#[]⟩, .int .i64 0, .slice none 0 0] 54)).drew.cell? ⟨b1, o1 + j * 2 + 1, none⟩ = some (.slice vb vn vc) := cell_box e_1
        go_wp2_with fail
        go_region_held3 (fun W => W.cell? ⟨w.heap.size, 0, none⟩ = some (.slice ub un uc) ∧ W.cell? ⟨w.heap.size + 1, 1, none⟩ = some (.slice (some ⟨b1, o1, none⟩) qn qc) ∧ W.cell? ⟨b1, o1 + j * 2, none⟩ = some (.string m1) ∧ W.cell? ⟨b1, o1 + j * 2 + 1, none⟩ = some (.slice vb vn vc)) (first | exact ⟨b_0, q_1, e_0, e_1⟩ | assumption | (go_split_ands; (first | exact ⟨cell_box (by assumption), cell_box (by assumption), cell_box (by assumption), cell_box (by assumption)⟩ | exact ⟨cell_set3 (by assumption) (by simp only []; omega), cell_set3 (by assumption) (by simp only []; omega), cell_set3 (by assumption) (by simp only []; omega), cell_set3 (by assumption) (by simp only []; omega)⟩))) (first | (go_at_call 104; (with_reducible refine (HC1.out _ hbd).mono ?_); rintro e w10 ⟨vb', vn', vc', rfl, _, z10⟩; have hS10 := (⟨(z10.cell (p := ⟨w.heap.size, 0, none⟩) (by simp only []; omega)).trans b_0, (z10.cell (p := ⟨w.heap.size + 1, 1, none⟩) (by simp only []; omega)).trans q_1, (z10.cell (p := ⟨b1, o1 + j * 2, none⟩) (by simp only []; omega)).trans e_0, (z10.cell (p := ⟨b1, o1 + j * 2 + 1, none⟩) (by simp only []; omega)).trans e_1⟩ : (fun W => W.cell? ⟨w.heap.size, 0, none⟩ = some (.slice ub un uc) ∧ W.cell? ⟨w.heap.size + 1, 1, none⟩ = some (.slice (some ⟨b1, o1, none⟩) qn qc) ∧ W.cell? ⟨b1, o1 + j * 2, none⟩ = some (.string m1) ∧ W.cell? ⟨b1, o1 + j * 2 + 1, none⟩ = some (.slice vb vn vc)) w10); have hz10 := z10.size) | (go_at_call 104; (with_reducible refine (HC1.out _ hbn).mono ?_); rintro e w10 ⟨vb', vn', vc', rfl, _, z10⟩; have hS10 := (⟨(z10.cell (p := ⟨w.heap.size, 0, none⟩) (by simp only []; omega)).trans k_b_0, (z10.cell (p := ⟨w.heap.size + 1, 1, none⟩) (by simp only []; omega)).trans k_q_1, (z10.cell (p := ⟨b1, o1 + j * 2, none⟩) (by simp only []; omega)).trans k_e_0, (z10.cell (p := ⟨b1, o1 + j * 2 + 1, none⟩) (by simp only []; omega)).trans k_e_1⟩ : (fun W => W.cell? ⟨w.heap.size, 0, none⟩ = some (.slice ub un uc) ∧ W.cell? ⟨w.heap.size + 1, 1, none⟩ = some (.slice (some ⟨b1, o1, none⟩) qn qc) ∧ W.cell? ⟨b1, o1 + j * 2, none⟩ = some (.string m1) ∧ W.cell? ⟨b1, o1 + j * 2 + 1, none⟩ = some (.slice vb vn vc)) w10); have hz10 := z10.size; replace n_0 := (z10.cell (p := ⟨wr.heap.size, 0, none⟩) (by simp only []; omega)).trans n_0; replace n_1 := (z10.cell (p := ⟨wr.heap.size, 1, none⟩) (by simp only []; omega)).trans n_1; replace n_2 := (z10.cell (p := ⟨wr.heap.size, 2, none⟩) (by simp only []; omega)).trans n_2; replace f_0 := (z10.frozen (p := ⟨wr.heap.size, 0, none⟩) (by simp only []; omega)).trans f_0; replace f_1 := (z10.frozen (p := ⟨wr.heap.size, 1, none⟩) (by simp only []; omega)).trans f_1; replace f_2 := (z10.frozen (p := ⟨wr.heap.size, 2, none⟩) (by simp only []; omega)).trans f_2))
        · obtain ⟨Wf, hW⟩ : ∃ W, W = w10.alloc (.cells #[.string ns, .int .i64 A, .slice vb' vn' vc'] 54) := ⟨_, rfl⟩
          have hbf : Below w.heap.size w Wf := by rw [hW]; exact (on hbd z10).alloc (by omega) _
          have hlf : Below w9.heap.size w9 Wf := by rw [hW]; exact (on hlc.drew z10).alloc (by have h9 := hlc.size; omega) _
          have t_1 : Wf.cell? ⟨w10.heap.size, 1, none⟩ = some (.int .i64 A) := by rw [hW]; exact box_cell (i := 1) (Below.refl _ _) rfl
          have x_1 : Wf.cell? ⟨w.heap.size + 1, 1, none⟩ = some (.slice (some ⟨b1, o1, none⟩) qn qc) := by rw [hW]; exact cell_box hS10.2.1
          have x_2 : Wf.cell? ⟨b1, o1 + j * 2 + 1, none⟩ = some (.slice vb vn vc) := by rw [hW]; exact cell_box hS10.2.2.2
          rw [← hW]
          clear hS10 n_0 n_1 n_2 f_0 f_1 f_2 k_b_0 k_q_1 k_e_0 k_e_1 hW z10 hbn hbd hz10
          cases s with
          | false =>
            go_wp2_with fail
            go_quiet (fail)
            go_wp2_with fail
            go_ret
            exact ⟨ret_bool (by rw [HA.out]; rfl), onD hbf ⟨_, rfl⟩⟩
          | true =>
            by_cases hd : A = (vn : Int)
            · have hd2 : (A == (vn : Int)) = true := by rw [beq_iff_eq]; exact hd
              have HE : Hid (queryFor db (vq, xs) = forFrom db (xs.drop (j + 1))) := Lib.hid (by rw [HA.out, decide_eq_true hd]; simp)
              clear hd HA
              go_wp2_with fail
              go_quiet (fail)
              go_wp2_with fail
              go_roundw
              case rel => exact ⟨j + 1, by omega, by go_num, HE.out, onD hlf ⟨_, rfl⟩⟩
              case measure => simp [intOf]; omega
            · have HE : Hid (queryFor db (vq, xs) = false) := Lib.hid (by rw [HA.out, decide_eq_false hd]; simp)
              have hd2 : (A == (vn : Int)) = false := by rw [beq_eq_false_iff_ne]; exact hd
              go_wp2_with fail
              go_quiet (fail)
              go_wp2_with fail
              go_ret
              exact ⟨ret_bool HE.out.symm, onD hbf ⟨_, rfl⟩⟩
        · obtain ⟨Wf, hW⟩ : ∃ W, W = ((w10.setCell ⟨wr.heap.size, 0, none⟩ (.string ns)).setCell ⟨wr.heap.size, 1, none⟩ (.int .i64 A)).setCell ⟨wr.heap.size, 2, none⟩ (.slice vb' vn' vc') := ⟨_, rfl⟩
          have hbf : Below w.heap.size w Wf := by
            rw [hW]
            exact (((on hbn z10).setCell (by simp only []; omega) _).setCell (by simp only []; omega) _).setCell (by simp only []; omega) _
          have hlf : Below w9.heap.size w9 Wf := by
            have h9 := hlc.size
            rw [hW]
            exact (((on ((hlc.alloc (by omega) _).drew) z10).setCell (by simp only []; omega) _).setCell (by simp only []; omega) _).setCell (by simp only []; omega) _
          have t_1 : Wf.cell? ⟨wr.heap.size, 1, none⟩ = some (.int .i64 A) := by rw [hW]; simp [n_1, go_sem]
          have x_1 : Wf.cell? ⟨w.heap.size + 1, 1, none⟩ = some (.slice (some ⟨b1, o1, none⟩) qn qc) := by rw [hW]; exact cell_set3 hS10.2.1 (by simp only []; omega)
          have x_2 : Wf.cell? ⟨b1, o1 + j * 2 + 1, none⟩ = some (.slice vb vn vc) := by rw [hW]; exact cell_set3 hS10.2.2.2 (by simp only []; omega)
          rw [← hW]
          clear hS10 n_0 n_1 n_2 f_0 f_1 f_2 k_b_0 k_q_1 k_e_0 k_e_1 hW z10 hbn hbd hz10
          cases s with
          | false =>
            go_wp2_with fail
            go_quiet (fail)
            go_wp2_with fail
            go_ret
            exact ⟨ret_bool (by rw [HA.out]; rfl), onD hbf ⟨_, rfl⟩⟩
          | true =>
            by_cases hd : A = (vn : Int)
            · have hd2 : (A == (vn : Int)) = true := by rw [beq_iff_eq]; exact hd
              have HE : Hid (queryFor db (vq, xs) = forFrom db (xs.drop (j + 1))) := Lib.hid (by rw [HA.out, decide_eq_true hd]; simp)
              clear hd HA
              go_wp2_with fail
              go_quiet (fail)
              go_wp2_with fail
              go_roundw
              case rel => exact ⟨j + 1, by omega, by go_num, HE.out, onD hlf ⟨_, rfl⟩⟩
              case measure => simp [intOf]; omega
            · have HE : Hid (queryFor db (vq, xs) = false) := Lib.hid (by rw [HA.out, decide_eq_false hd]; simp)
              have hd2 : (A == (vn : Int)) = false := by rw [beq_eq_false_iff_ne]; exact hd
              go_wp2_with fail
              go_quiet (fail)
              go_wp2_with fail
              go_ret
              exact ⟨ret_bool HE.out.symm, onD hbf ⟨_, rfl⟩⟩
      · have HE : Hid (queryFor db (vq, xs) = true) := Lib.hid (by rw [hE.out, for_end (by omega)])
        clear hE t1 hl
        go_wp2_with fail
        go_ret
        exact ⟨ret_bool HE.out.symm, hb4⟩

end Go.Proofs.Ytkipgbgkhffkkaa

/- Plain: the answer of a query on the atoms of a mask; the program's join and the reference's search give one answer. -/
namespace Go.Proofs.Ytkipgbgkhffkkaa
open Go.RowKit
set_option linter.unusedVariables false
set_option linter.unusedSimpArgs false

/-- The first j atoms, as far as they are in the mask. -/
def pickTo (K : Nat) (xs : List DA) : Nat → List DA
  | 0 => []
  | j + 1 => pickTo K xs j ++ (if bitAt K j then (xs[j]?).toList else [])
theorem pickTo_yes {K j : Nat} {xs : List DA} {a : DA} (h : xs[j]? = some a) (hb : bitAt K j = true) : pickTo K xs (j + 1) = pickTo K xs j ++ [a] := by
  rw [pickTo, if_pos hb, h]; rfl
theorem pickTo_no {K j : Nat} {xs : List DA} (hb : bitAt K j = false) : pickTo K xs (j + 1) = pickTo K xs j := by
  rw [pickTo, if_neg (by rw [hb]; simp), List.append_nil]
theorem pickTo_len (K : Nat) (xs : List DA) : ∀ j, (pickTo K xs j).length ≤ j
  | 0 => Nat.le_refl _
  | j + 1 => by
    have := pickTo_len K xs j
    rw [pickTo, List.length_append]
    split
    · cases xs[j]? <;> simp <;> omega
    · simp; omega
theorem pickTo_mem {K : Nat} {xs : List DA} {a : DA} : ∀ {j : Nat}, a ∈ pickTo K xs j ↔ ∃ i, i < j ∧ bitAt K i = true ∧ xs[i]? = some a
  | 0 => by simp [pickTo]
  | j + 1 => by
    rw [pickTo, List.mem_append, pickTo_mem]
    constructor
    · rintro (⟨i, h1, h2, h3⟩ | h)
      · exact ⟨i, by omega, h2, h3⟩
      · split at h
        · rename_i hb
          exact ⟨j, by omega, hb, by simpa using h⟩
        · cases h
    · rintro ⟨i, h1, h2, h3⟩
      by_cases hi : i = j
      · subst hi
        right
        rw [if_pos h2, h3]
        simp
      · exact .inl ⟨i, by omega, h2, h3⟩
/-- The atoms of a mask, and their tables. -/
def selA (q : DQ) (K : Nat) : List DA := pickTo K q.2 q.2.length
def tabsOf (db : DDb) (as' : List DA) : List DT := as'.map (fun a => lookT (look db a.1))
def evalRA (db : DDb) (q : DQ) (K : Nat) : List RA := zipRA (tabsOf db (selA q K)) (selA q K)
theorem zipRA_map (db : DDb) (zs : List DA) : zipRA (tabsOf db zs) zs = zs.map (fun a => ((lookT (look db a.1)).2.2, a.2)) := by
  unfold zipRA tabsOf
  induction zs with
  | nil => rfl
  | cons a t ih => simp only [List.map_cons, List.zipWith_cons_cons, ih]
/-- The same for the first j atoms. -/
def raTo (db : DDb) (xs : List DA) (K j : Nat) : List RA := zipRA (tabsOf db (pickTo K xs j)) (pickTo K xs j)
theorem raTo_yes {db : DDb} {K j : Nat} {xs : List DA} {a : DA} (h : xs[j]? = some a) (hb : bitAt K j = true) : raTo db xs K (j + 1) = raTo db xs K j ++ [((lookT (look db a.1)).2.2, a.2)] := by
  rw [raTo, raTo, zipRA_map, zipRA_map, pickTo_yes h hb, List.map_append]; rfl
theorem raTo_no {db : DDb} {K j : Nat} {xs : List DA} (hb : bitAt K j = false) : raTo db xs K (j + 1) = raTo db xs K j := by
  rw [raTo, raTo, pickTo_no hb]
theorem raTo_all (db : DDb) (q : DQ) (K : Nat) : raTo db q.2 K q.2.length = evalRA db q K := rfl
theorem raTo_cnt (db : DDb) (xs : List DA) (K j : Nat) : (raTo db xs K j).length ≤ j := by
  rw [raTo, zipRA_map, List.length_map]; exact pickTo_len K xs j
/-- Whether a query can be evaluated on a mask, and what comes. -/
def evalOk (db : DDb) (q : DQ) (k : Int) : Bool := queryFor db q && betw k 1 (fullMask q)
def evalK (db : DDb) (q : DQ) (K : Nat) : DAn := (varsOf q K, walkE (evalRA db q K) (varsOf q K) (varsOf q K).length [])
def evalM (db : DDb) (q : DQ) (k : Int) : DAn := if evalOk db q k then evalK db q k.toNat else ([], [])
theorem evalM_no {db : DDb} {q : DQ} {k : Int} (h : evalOk db q k = false) : evalM db q k = ([], []) := by simp [evalM, h]
theorem evalM_yes {db : DDb} {q : DQ} {K : Nat} (h : evalOk db q (K : Int) = true) : evalM db q (K : Int) = evalK db q K := by simp [evalM, h]
theorem evalOk_valid {db : DDb} {q : DQ} {k : Int} (h : evalOk db q k = true) : queryFor db q = true ∧ validQ q = true ∧ ∃ K : Nat, k = K ∧ 1 ≤ K ∧ K < 2 ^ q.2.length ∧ maskOkB q (K : Int) = true := by
  rw [evalOk, Bool.and_eq_true] at h
  have hv : validQ q = true := by have := h.1; rw [queryFor, Bool.and_eq_true] at this; exact this.1
  have hb := h.2
  rw [betw, Bool.and_eq_true, decide_eq_true_eq, decide_eq_true_eq] at hb
  have hf : fullMask q = ((2 ^ q.2.length - 1 : Nat) : Int) := by simp [fullMask, hv]
  have hp := Nat.two_pow_pos q.2.length
  refine ⟨h.1, hv, k.toNat, by omega, by omega, by omega, ?_⟩
  simp only [maskOkB, hv, betw, Bool.true_and, Bool.and_eq_true, decide_eq_true_eq]
  omega
theorem for_mem {db : DDb} : ∀ {xs : List DA}, forFrom db xs = true → ∀ a ∈ xs, (look db a.1).isSome = true ∧ (lookT (look db a.1)).2.1 = (a.2.length : Int)
  | [], _, a, ha => by cases ha
  | x :: t, h, a, ha => by
    simp only [forFrom, Bool.and_eq_true, decide_eq_true_eq] at h
    rcases List.mem_cons.1 ha with rfl | ha
    · exact ⟨h.1, h.2.1⟩
    · exact for_mem h.2.2 a ha
theorem varsFrom_nodup {n : Int} : ∀ {vs pre : List Int}, varsFrom n pre vs = true → vs.Nodup ∧ ∀ v ∈ vs, v ∉ pre
  | [], _, _ => ⟨List.nodup_nil, by simp⟩
  | x :: t, pre, h => by
    simp only [varsFrom, Bool.and_eq_true, Bool.not_eq_true', has, decide_eq_false_iff_not] at h
    obtain ⟨h1, h2⟩ := varsFrom_nodup h.2
    refine ⟨List.nodup_cons.2 ⟨fun hm => h2 x hm (by simp), h1⟩, fun v hv => ?_⟩
    rcases List.mem_cons.1 hv with rfl | hv
    · exact h.1.2
    · exact fun hm => h2 v hv (by simp [hm])
theorem validFrom_nodup {n : Nat} : ∀ {xs : List DA} {m : Nat}, validFrom n m xs = true → ∀ a ∈ xs, a.2.Nodup
  | [], _, _, a, ha => by cases ha
  | x :: t, m, h, a, ha => by
    simp only [validFrom, Bool.and_eq_true] at h
    rcases List.mem_cons.1 ha with rfl | ha
    · exact (varsFrom_nodup h.2.1).1
    · exact validFrom_nodup h.2.2 a ha
theorem validQ_nodup {q : DQ} (h : validQ q = true) : ∀ a ∈ q.2, a.2.Nodup := by
  simp only [validQ, Bool.and_eq_true] at h
  exact validFrom_nodup h.2
theorem look_some_T {db : DDb} {name : ByteArray} (h : (look db name).isSome = true) : TOk (lookT (look db name)) := by
  obtain ⟨t, ht⟩ := Option.isSome_iff_exists.1 h
  rw [ht]
  exact look_ok ht
/-- Of a table that a query's atom names. -/
theorem atom_fits {db : DDb} {q : DQ} (h : queryFor db q = true) {a : DA} (ha : a ∈ q.2) : TOk (lookT (look db a.1)) ∧ ∀ r ∈ (lookT (look db a.1)).2.2, r.length = a.2.length := by
  rw [queryFor, Bool.and_eq_true] at h
  obtain ⟨h1, h2⟩ := for_mem h.2 a ha
  have hT := look_some_T h1
  refine ⟨hT, fun r hr => ?_⟩
  have := (hT.row r hr).1
  omega
theorem selA_mem {q : DQ} {K : Nat} {a : DA} (h : a ∈ selA q K) : a ∈ q.2 := by
  obtain ⟨i, _, _, h3⟩ := pickTo_mem.1 h
  exact List.mem_of_getElem? h3
theorem pick_mem {q : DQ} {K j : Nat} {a : DA} (h : a ∈ pickTo K q.2 j) : a ∈ q.2 := by
  obtain ⟨i, _, _, h3⟩ := pickTo_mem.1 h
  exact List.mem_of_getElem? h3
theorem evalRA_mem {db : DDb} {q : DQ} {K : Nat} {p : RA} (h : p ∈ evalRA db q K) : ∃ a ∈ selA q K, p = ((lookT (look db a.1)).2.2, a.2) := by
  rw [evalRA, zipRA_map] at h
  obtain ⟨a, ha, rfl⟩ := List.mem_map.1 h
  exact ⟨a, ha, rfl⟩
theorem evalRA_fine {db : DDb} {q : DQ} {n K : Nat} (h : queryFor db q = true) (hq : QOk q n) : ∀ p ∈ evalRA db q K, FineA n p := by
  intro p hp
  obtain ⟨a, ha, rfl⟩ := evalRA_mem hp
  have hm := selA_mem ha
  obtain ⟨h1, h2⟩ := atom_fits h hm
  have hv : validQ q = true := by rw [queryFor, Bool.and_eq_true] at h; exact h.1
  exact ⟨validQ_nodup hv a hm, fun v hv => hq.vars a hm v hv, fun r hr => ⟨h2 r hr, (h1.row r hr).2⟩⟩
theorem someFrom_iff {K v : Nat} : ∀ {xs : List DA} {i : Nat}, someFrom K v i xs = true ↔ ∃ j a, xs[j]? = some a ∧ bitAt K (i + j) = true ∧ (v : Int) ∈ a.2
  | [], i => by simp [someFrom]
  | a :: t, i => by
    rw [someFrom, Bool.or_eq_true, Bool.and_eq_true, someFrom_iff]
    constructor
    · rintro (⟨h1, h2⟩ | ⟨j, b, h1, h2, h3⟩)
      · exact ⟨0, a, rfl, h1, by simpa [has] using h2⟩
      · exact ⟨j + 1, b, h1, by rw [show i + (j + 1) = i + 1 + j by omega]; exact h2, h3⟩
    · rintro ⟨j, b, h1, h2, h3⟩
      cases j with
      | zero =>
        simp at h1
        subst h1
        exact .inl ⟨h2, by simpa [has] using h3⟩
      | succ j => exact .inr ⟨j, b, h1, by rw [show i + 1 + j = i + (j + 1) by omega]; exact h2, h3⟩
theorem bitsTo_nodup {x : Nat} : ∀ m, (bitsTo x m).Nodup ∧ ∀ v ∈ bitsTo x m, 0 ≤ v ∧ v < (m : Int)
  | 0 => ⟨List.nodup_nil, by simp [bitsTo]⟩
  | m + 1 => by
    obtain ⟨h1, h2⟩ := bitsTo_nodup (x := x) m
    cases hb : bitAt x m with
    | true =>
      rw [bitsTo_yes hb]
      refine ⟨List.nodup_append.2 ⟨h1, by simp, fun a ha b hb9 e => ?_⟩, fun v hv => ?_⟩
      · simp at hb9
        have := h2 a ha
        omega
      · rcases List.mem_append.1 hv with hv | hv
        · have := h2 v hv; omega
        · simp at hv; omega
    | false =>
      rw [bitsTo_no hb]
      exact ⟨h1, fun v hv => by have := h2 v hv; omega⟩
theorem varsOf_mem {db : DDb} {q : DQ} {n K : Nat} (hq : QOk q n) (v : Int) : v ∈ varsOf q K ↔ (0 ≤ v ∧ v < (n : Int) ∧ ∃ p ∈ evalRA db q K, v ∈ p.2) := by
  have key : (∃ p ∈ evalRA db q K, v ∈ p.2) ↔ ∃ i a, q.2[i]? = some a ∧ bitAt K i = true ∧ v ∈ a.2 := by
    rw [evalRA, zipRA_map]
    constructor
    · rintro ⟨p, hp, hv⟩
      obtain ⟨a, ha, rfl⟩ := List.mem_map.1 hp
      obtain ⟨i, _, h2, h3⟩ := pickTo_mem.1 ha
      exact ⟨i, a, h3, h2, hv⟩
    · rintro ⟨i, a, h1, h2, h3⟩
      exact ⟨_, List.mem_map.2 ⟨a, pickTo_mem.2 ⟨i, (List.getElem?_eq_some_iff.1 h1).1, h2, h1⟩, rfl⟩, h3⟩
  rw [key]
  have hb := hq.bits_lt K
  constructor
  · intro h
    have hr := (bitsTo_nodup (x := bitsOf q K) 4).2 v h
    obtain ⟨u, rfl⟩ := Int.eq_ofNat_of_zero_le hr.1
    have h1 : has (varsOf q K) (u : Int) = true := by simpa [has] using h
    rw [varsOf_has q (by omega)] at h1
    have h2 := hq.some K u
    rw [bitAt_testBit, h1] at h2
    obtain ⟨j, a, h3, h4, h5⟩ := someFrom_iff.1 h2.symm
    rw [List.drop_zero] at h3
    rw [Nat.zero_add] at h4
    exact ⟨hr.1, (hq.vars a (List.mem_of_getElem? h3) _ h5).2, j, a, h3, h4, h5⟩
  · rintro ⟨h0, hn, i, a, h1, h2, h3⟩
    obtain ⟨u, rfl⟩ := Int.eq_ofNat_of_zero_le h0
    have hu : u < 4 := by have := hq.le; omega
    have h4 := hq.some K u
    have h5 : someFrom K u 0 (q.2.drop 0) = true := someFrom_iff.2 ⟨i, a, by rw [List.drop_zero]; exact h1, by rw [Nat.zero_add]; exact h2, h3⟩
    rw [h5, bitAt_testBit] at h4
    have h6 : has (varsOf q K) (u : Int) = true := by rw [varsOf_has q hu]; exact h4
    simpa [has] using h6
theorem raTo_mem {db : DDb} {xs : List DA} {K j : Nat} {p : RA} (h : p ∈ raTo db xs K j) : ∃ a ∈ xs, p = ((lookT (look db a.1)).2.2, a.2) := by
  rw [raTo, zipRA_map] at h
  obtain ⟨a, ha, rfl⟩ := List.mem_map.1 h
  obtain ⟨i, _, _, h3⟩ := pickTo_mem.1 ha
  exact ⟨a, List.mem_of_getElem? h3, rfl⟩
theorem atom_fine {db : DDb} {q : DQ} {n : Nat} (h : queryFor db q = true) (hq : QOk q n) {a : DA} (hm : a ∈ q.2) : FineA n ((lookT (look db a.1)).2.2, a.2) := by
  obtain ⟨h1, h2⟩ := atom_fits h hm
  have hv : validQ q = true := by rw [queryFor, Bool.and_eq_true] at h; exact h.1
  exact ⟨validQ_nodup hv a hm, fun v hv => hq.vars a hm v hv, fun r hr => ⟨h2 r hr, (h1.row r hr).2⟩⟩
/-- What the program's list is known to hold on the way. -/
theorem joinTo_facts {db : DDb} {q : DQ} {n : Nat} (h : queryFor db q = true) (hq : QOk q n) (K : Nat) {j : Nat} (hj : j ≤ 4) : (joinAll n (raTo db q.2 K j)).length ≤ 4096 ∧ ∀ x ∈ joinAll n (raTo db q.2 K j), x.length = n := by
  refine ⟨?_, fun x hx => joinAll_row (fun p hp => ?_) hx⟩
  · have h1 := joinAll_len (n := n) (L := raTo db q.2 K j) (fun p hp => by
      obtain ⟨a, ha, rfl⟩ := raTo_mem hp
      exact (atom_fits h ha).1.len)
    have h2 := raTo_cnt db q.2 K j
    have h3 : 8 ^ (raTo db q.2 K j).length ≤ 8 ^ 4 := Nat.pow_le_pow_right (by omega) (by omega)
    omega
  · obtain ⟨a, ha, rfl⟩ := raTo_mem hp
    exact atom_fine h hq ha
/-- The program's answer is the reference's. -/
theorem eval_one {db : DDb} {q : DQ} {n K : Nat} (h : queryFor db q = true) (hq : QOk q n) : canon ((joinAll n (evalRA db q K)).map (fun x => sel x (varsOf q K))) = (evalK db q K).2 :=
  answer_eq (evalRA_fine h hq) (bitsTo_nodup 4).1 (varsOf_mem hq)
theorem evalRA_len {db : DDb} {q : DQ} {n K : Nat} (h : queryFor db q = true) (hq : QOk q n) : ∀ p ∈ evalRA db q K, p.1.length ≤ 8 := by
  intro p hp
  obtain ⟨a, ha, rfl⟩ := evalRA_mem hp
  exact (atom_fits h (selA_mem ha)).1.len
/-- How great an answer is. -/
theorem evalM_len (db : DDb) (q : DQ) (k : Int) : (evalM db q k).1.length ≤ 4 ∧ (evalM db q k).2.length ≤ 10000 ∧ ∀ r ∈ (evalM db q k).2, r.length ≤ 4 := by
  cases h : evalOk db q k with
  | false => rw [evalM_no h]; simp
  | true =>
    obtain ⟨_, _, K, rfl, _⟩ := evalOk_valid h
    rw [evalM_yes h]
    have h4 := varsOf_len q K
    refine ⟨h4, ?_, fun r hr => ?_⟩
    · have h1 := walkE_len (evalRA db q K) (varsOf q K) (varsOf q K).length []
      have h2 : 10 ^ (varsOf q K).length ≤ 10 ^ 4 := Nat.pow_le_pow_right (by omega) h4
      show (walkE _ _ _ _).length ≤ _
      omega
    · obtain ⟨s, hz, hs, _⟩ := walkE_mem.1 hr
      rw [hz, List.nil_append]
      omega

end Go.Proofs.Ytkipgbgkhffkkaa

/- Contracts: the answer of a query on the atoms of a mask, by the program. -/
namespace Go.Proofs.Ytkipgbgkhffkkaa
open Go.RowKit
set_option linter.unusedVariables false
set_option linter.unusedSimpArgs false
set_option synthInstance.maxSize 2000
set_option synthInstance.maxHeartbeats 400000

/-- A row of one's own, whose block is known. -/
theorem own_row {lo hi n : Nat} {w : World} {v : Value} {xs : List Int} (h : Own oI lo hi w [v] xs) (hn : xs.length = n) (hpos : 0 < n) : ∃ g cap, v = .slice (some ⟨g, 0, none⟩) n cap ∧ OwnInts lo w (.slice (some ⟨g, 0, none⟩) n cap) n xs ∧ lo ≤ g ∧ g < hi ∧ g < w.heap.size := by
  subst hn
  obtain ⟨fp, hrep, hnd, hlim⟩ := h
  obtain ⟨a, cap, he, hO, hfp⟩ := oI_own hrep
  simp at he
  subst he
  rcases hO.row.2 with ⟨h1, h2⟩ | ⟨g, cap', cur, h1, h2, h3, h4⟩
  · omega
  · simp at h1
    obtain ⟨rfl, rfl⟩ := h1
    have hg := hlim g (by rw [hfp]; simp [bl, Value.ownBlock])
    refine ⟨g, cap, rfl, ⟨hO.len, ⟨hO.row.1, .inr ⟨g, cap, cur, rfl, hg.1, h3, h4⟩⟩, hO.rng⟩, hg.1, hg.2, (Array.getElem?_eq_some_iff.1 h3).1⟩
theorem map_set_int (xs : List Int) (i : Nat) (u : Int) : (xs.set i u).map (Value.int .i64) = (xs.map (Value.int .i64)).set i (.int .i64 u) := by
  rw [List.map_set]
/-- A cell of a row of one's own is written. -/
theorem OwnInts.put {B : Nat} {w : World} {g n cap c : Nat} {xs : List Int} {u : Int} (h : OwnInts B w (.slice (some ⟨g, 0, none⟩) n cap) n xs) (hc : c < n) (hu : I64 u) : OwnInts B (w.setCell ⟨g, c, none⟩ (.int .i64 u)) (.slice (some ⟨g, 0, none⟩) n cap) n (xs.set c u) := by
  refine ⟨by rw [List.length_set]; exact h.len, ?_, fun x hx => ?_⟩
  · rcases h.row.2 with ⟨h1, _⟩ | ⟨g', cap', cur, h1, h2, h3, h4, h5, h6, h7⟩
    · simp at h1
    · simp at h1
      obtain ⟨rfl, rfl⟩ := h1
      refine ⟨by simp [h.len], .inr ⟨g, cap, cur.setIfInBounds c (.int .i64 u), rfl, h2, heap_setCell_same w g c cur _ _ h3, h4, h5, by simpa using h6, ?_⟩⟩
      rw [Array.toList_setIfInBounds, map_set_int, ← h7]
      rw [List.take_set]
  · rcases List.mem_or_eq_of_mem_set hx with hx | rfl
    · exact h.rng x hx
    · exact hu
theorem Acc.apart {α : Type} {E : TypeId} {o : OS α} {lo S hi g : Nat} {w w' : World} {v : Value} {xs : List α} (h : Acc E o lo S hi w v xs) (ht : Turn g (g + 1) w w') (hg : hi ≤ g) (hh : hi ≤ w.heap.size) : Acc E o lo S hi w' v xs := by
  obtain ⟨fp, h3, h4, h5⟩ := h
  exact ⟨fp, (O.slice E o).frame h3 (fun k hk => ht.block k (by have := (h5 k hk).2; omega) (by have := (h5 k hk).2; omega)), h4, h5⟩
theorem OwnInts.cellAt {B : Nat} {w : World} {g n cap c : Nat} {xs : List Int} (h : OwnInts B w (.slice (some ⟨g, 0, none⟩) n cap) n xs) (hc : c < n) : w.cell? ⟨g, c, none⟩ = some (.int .i64 (xs.getD c 0)) ∧ w.frozen? ⟨g, c, none⟩ = false := by
  obtain ⟨g2, hg, _, h1, h2⟩ := own_cells h.row c hc
  simp at hg
  subst hg
  refine ⟨?_, h2⟩
  rw [h1, List.getElem?_map, List.getD_eq_getElem?_getD, List.getElem?_eq_getElem (by rw [h.len]; exact hc)]
  rfl
theorem Turn.apart {lo g : Nat} {a b c : World} (h : Turn lo (lo + 1) a b) (k : Turn g (g + 1) b c) (hg : a.heap.size ≤ g) : Turn lo (lo + 1) a c :=
  ⟨k.os.trans h.os, k.tape.trans h.tape, k.output.trans h.output, Nat.le_trans h.size k.size, fun i hi hx => (k.block i (by have := h.size; omega) (.inl (by omega))).trans (h.block i hi hx)⟩
theorem OwnInts.turnIn {B : Nat} {w : World} {v : Value} {n : Nat} {xs : List Int} (h : OwnInts B w v n xs) (m : Nat) : OwnInts B (w.drewN m) v n xs := h.below (Drew.below ⟨m, rfl⟩ _)

theorem ownT_rows9 {lo hi vn vc : Nat} {w : World} {ns : ByteArray} {A : Int} {vb : Option Addr} {r : List (List Int)} (h : Own oT lo hi w [.string ns, .int .i64 A, .slice vb vn vc] (ns, A, r)) : Sl rI w vb vn r := by
  obtain ⟨vb2, vn2, vc2, he9, _, _, gr⟩ := rT_open (h.rd reads_T)
  simp at he9
  obtain ⟨rfl, rfl, rfl⟩ := he9
  exact rS_sl gr

set_option maxRecDepth 100000 in
set_option maxHeartbeats 8000000 in
theorem evaluate_any (cs ds : List Value) (db : DDb) (x : DQ) (K n : Nat) (w : World) (h : rDb.rep w cs db) (h' : rQ.rep w ds x) (hf : queryFor db x = true) (hq : QOk x n) (hK : K < 2 ^ x.2.length) :
    Calls Try.prog 109 #[.agg cs.toArray, .agg ds.toArray, .int .i64 (K : Int)] w fun e w' => ∃ us, e = .returned (.agg us.toArray) ∧ Own oAn w.heap.size w'.heap.size w' us (evalK db x K) ∧ Below w.heap.size w w' := by
  have hK16 : K < 16 := by
    have := Nat.pow_le_pow_right (show 0 < 2 by omega) hq.len
    omega
  have HVA := Lib.hid (fun W (hW : Below w.heap.size w W) => variables_any ds x K n W (rQ.mono h' hW) hq hK16)
  obtain ⟨ub, un, uc, rfl, g1⟩ := rDb_open h
  obtain ⟨qb, qn, qc, rfl, hi2, gq⟩ := rQ_open h'
  have HCK := Lib.hid (fun name W (hW : Below w.heap.size w W) => lookI_any [.slice ub un uc] db name W (rDb.mono h hW))
  have HONE := Lib.hid (eval_one (K := K) hf hq)
  have HJF := Lib.hid (fun j (hj : j ≤ 4) => joinTo_facts hf hq K hj)
  have HALL := Lib.hid (raTo_all db x K)
  have HFA := Lib.hid (fun a (ha : a ∈ x.2) => atom_fine hf hq ha)
  have HFT := Lib.hid (fun a (ha : a ∈ x.2) => (atom_fits hf ha).1)
  have HVL := Lib.hid (fun a (ha : a ∈ x.2) => hq.vlen a ha)
  obtain ⟨V, hV⟩ : ∃ V, varsOf x K = V := ⟨_, rfl⟩
  have hV4 : V.length ≤ 4 := by rw [← hV]; exact varsOf_len x K
  obtain ⟨E, hE⟩ : ∃ E, evalK db x K = E := ⟨_, rfl⟩
  have HE1 : Hid (E.1 = V) := Lib.hid (by rw [← hE, ← hV]; rfl)
  rw [hV, hE] at HONE
  rw [hV] at HVA
  rw [hE]
  have hn1 := hq.pos
  have hn4 := hq.le
  have hql := hq.len
  have hc9 := hq.cnt
  obtain ⟨vq, xs⟩ := x
  simp only at hc9 hi2 gq HVA HJF HALL HFA HFT HVL hql
  subst hc9
  have t0 := rS_sl gq
  have hl := t0.len
  have hnn := t0.small
  have hqn4 : qn ≤ 4 := by omega
  rw [hl] at HALL
  clear h h' hf hq hK g1 gq hV hE hl hql
  have hb0 : Below w.heap.size w w := Below.refl _ _
  go_enter Try.func109, Try.ntmps109
  obtain ⟨w1, hw1⟩ : ∃ W, W = w.alloc (.cells #[.slice ub un uc] 33) := ⟨_, rfl⟩
  have z1 : Below w.heap.size w w1 := by rw [hw1]; exact (Below.refl _ _).alloc (Nat.le_refl _) _
  have s1 : w1.heap.size = w.heap.size + 1 := by rw [hw1]; simp
  have hb1 := on hb0 z1
  have b_0 : w1.cell? ⟨w.heap.size, 0, none⟩ = some (.slice ub un uc) := by rw [hw1]; exact box_cell (Below.refl _ _) rfl
  have raw1_b_0 := b_0
  rw [hw1] at raw1_b_0
  obtain ⟨w2, hw2⟩ : ∃ W, W = w1.alloc (.cells #[.int .i64 (n : Int), .slice qb qn qc] 37) := ⟨_, rfl⟩
  have z2 : Below w1.heap.size w1 w2 := by rw [hw2]; exact (Below.refl _ _).alloc (Nat.le_refl _) _
  have s2 : w2.heap.size = w1.heap.size + 1 := by rw [hw2]; simp
  have hb2 := on hb1 z2
  replace b_0 := (z2.cell (p := ⟨w.heap.size, 0, none⟩) (by simp only []; omega)).trans b_0
  have e2 : w1.heap.size = w.heap.size + 1 := by omega
  have q_0 : w2.cell? ⟨w1.heap.size, 0, none⟩ = some (.int .i64 (n : Int)) := by rw [hw2]; exact box_cell (Below.refl _ _) rfl
  have q_1 : w2.cell? ⟨w1.heap.size, 1, none⟩ = some (.slice qb qn qc) := by rw [hw2]; exact box_cell (Below.refl _ _) rfl
  rw [e2] at q_0 q_1
  have raw2_b_0 := b_0
  have raw2_q_0 := q_0
  have raw2_q_1 := q_1
  rw [hw2, hw1] at raw2_b_0 raw2_q_0 raw2_q_1
  obtain ⟨w3, hw3⟩ : ∃ W, W = w2.alloc (.cells #[.slice none 0 0, .slice none 0 0] 81) := ⟨_, rfl⟩
  have z3 : Below w2.heap.size w2 w3 := by rw [hw3]; exact (Below.refl _ _).alloc (Nat.le_refl _) _
  have s3 : w3.heap.size = w2.heap.size + 1 := by rw [hw3]; simp
  have hb3 := on hb2 z3
  replace b_0 := (z3.cell (p := ⟨w.heap.size, 0, none⟩) (by simp only []; omega)).trans b_0
  replace q_0 := (z3.cell (p := ⟨w.heap.size + 1, 0, none⟩) (by simp only []; omega)).trans q_0
  replace q_1 := (z3.cell (p := ⟨w.heap.size + 1, 1, none⟩) (by simp only []; omega)).trans q_1
  have e3 : w2.heap.size = w.heap.size + 1 + 1 := by omega
  have r_0 : w3.cell? ⟨w2.heap.size, 0, none⟩ = some (.slice none 0 0) := by rw [hw3]; exact box_cell (Below.refl _ _) rfl
  have r_1 : w3.cell? ⟨w2.heap.size, 1, none⟩ = some (.slice none 0 0) := by rw [hw3]; exact box_cell (Below.refl _ _) rfl
  rw [e3] at r_0 r_1
  have r_f0 : w3.frozen? ⟨w2.heap.size, 0, none⟩ = false := by rw [hw3]; exact box_frozen (Below.refl _ _)
  have r_f1 : w3.frozen? ⟨w2.heap.size, 1, none⟩ = false := by rw [hw3]; exact box_frozen (Below.refl _ _)
  rw [e3] at r_f0 r_f1
  have raw3_b_0 := b_0
  have raw3_q_0 := q_0
  have raw3_q_1 := q_1
  have raw3_r_0 := r_0
  have raw3_r_1 := r_1
  rw [hw3, hw2, hw1] at raw3_b_0 raw3_q_0 raw3_q_1 raw3_r_0 raw3_r_1
  go_wp2_with fail
  rw [← hw1]
  rw [← hw2]
  rw [← hw3]
  clear hw3 hw2 hw1
  clear raw1_b_0 raw2_b_0 raw2_q_0 raw2_q_1 raw3_b_0 raw3_q_0 raw3_q_1 raw3_r_0 raw3_r_1
  refine (HVA.out _ hb3).mono ?_
  rintro e w4 ⟨u4, rfl, ov, z4⟩
  obtain ⟨vb, vn, vc, rfl⟩ := oI_form1 ov
  have s4 := z4.size
  have hb4 := on hb3 z4
  replace b_0 := (z4.cell (p := ⟨w.heap.size, 0, none⟩) (by simp only []; omega)).trans b_0
  replace q_0 := (z4.cell (p := ⟨w.heap.size + 1, 0, none⟩) (by simp only []; omega)).trans q_0
  replace q_1 := (z4.cell (p := ⟨w.heap.size + 1, 1, none⟩) (by simp only []; omega)).trans q_1
  replace r_0 := (z4.cell (p := ⟨w.heap.size + 1 + 1, 0, none⟩) (by simp only []; omega)).trans r_0
  replace r_1 := (z4.cell (p := ⟨w.heap.size + 1 + 1, 1, none⟩) (by simp only []; omega)).trans r_1
  replace r_f0 := (z4.frozen (p := ⟨w.heap.size + 1 + 1, 0, none⟩) (by simp only []; omega)).trans r_f0
  replace r_f1 := (z4.frozen (p := ⟨w.heap.size + 1 + 1, 1, none⟩) (by simp only []; omega)).trans r_f1
  obtain ⟨w5, hw5⟩ : ∃ W, W = w4.alloc (.cells #[.int .i64 (-1)] 3) := ⟨_, rfl⟩
  have z5 : Below w4.heap.size w4 w5 := by rw [hw5]; exact (Below.refl _ _).alloc (Nat.le_refl _) _
  have s5 : w5.heap.size = w4.heap.size + 1 := by rw [hw5]; simp
  have hb5 := on hb4 z5
  have old5_b_0 := b_0
  have old5_q_0 := q_0
  have old5_q_1 := q_1
  have old5_r_0 := r_0
  have old5_r_1 := r_1
  replace b_0 := (z5.cell (p := ⟨w.heap.size, 0, none⟩) (by simp only []; omega)).trans b_0
  replace q_0 := (z5.cell (p := ⟨w.heap.size + 1, 0, none⟩) (by simp only []; omega)).trans q_0
  replace q_1 := (z5.cell (p := ⟨w.heap.size + 1, 1, none⟩) (by simp only []; omega)).trans q_1
  replace r_0 := (z5.cell (p := ⟨w.heap.size + 1 + 1, 0, none⟩) (by simp only []; omega)).trans r_0
  replace r_1 := (z5.cell (p := ⟨w.heap.size + 1 + 1, 1, none⟩) (by simp only []; omega)).trans r_1
  replace r_f0 := (z5.frozen (p := ⟨w.heap.size + 1 + 1, 0, none⟩) (by simp only []; omega)).trans r_f0
  replace r_f1 := (z5.frozen (p := ⟨w.heap.size + 1 + 1, 1, none⟩) (by simp only []; omega)).trans r_f1
  replace ov := ov.below z5 (by omega)
  have m_0 : w5.cell? ⟨w4.heap.size, 0, none⟩ = some (.int .i64 (-1)) := by rw [hw5]; exact box_cell (Below.refl _ _) rfl
  have raw5_b_0 := b_0
  have raw5_q_0 := q_0
  have raw5_q_1 := q_1
  have raw5_r_0 := r_0
  have raw5_r_1 := r_1
  have raw5_m_0 := m_0
  rw [hw5] at raw5_b_0 raw5_q_0 raw5_q_1 raw5_r_0 raw5_r_1 raw5_m_0
  go_wp2_with fail
  rw [← hw5]
  clear hw5
  clear old5_b_0 old5_q_0 old5_q_1 old5_r_0 old5_r_1 raw5_b_0 raw5_q_0 raw5_q_1 raw5_r_0 raw5_r_1 raw5_m_0
  refine (repeat_any _ n (-1) _ hn1 hn4 ⟨by omega, by omega⟩ m_0).mono ?_
  rintro e w5 ⟨xb, xn, xc, rfl, ox, z5⟩
  have s6 := z5.size
  have hb6 := on hb5 z5
  replace b_0 := (z5.cell (p := ⟨w.heap.size, 0, none⟩) (by simp only []; omega)).trans b_0
  replace q_0 := (z5.cell (p := ⟨w.heap.size + 1, 0, none⟩) (by simp only []; omega)).trans q_0
  replace q_1 := (z5.cell (p := ⟨w.heap.size + 1, 1, none⟩) (by simp only []; omega)).trans q_1
  replace r_0 := (z5.cell (p := ⟨w.heap.size + 1 + 1, 0, none⟩) (by simp only []; omega)).trans r_0
  replace r_1 := (z5.cell (p := ⟨w.heap.size + 1 + 1, 1, none⟩) (by simp only []; omega)).trans r_1
  replace r_f0 := (z5.frozen (p := ⟨w.heap.size + 1 + 1, 0, none⟩) (by simp only []; omega)).trans r_f0
  replace r_f1 := (z5.frozen (p := ⟨w.heap.size + 1 + 1, 1, none⟩) (by simp only []; omega)).trans r_f1
  replace ov := ov.below z5 (by omega)
  replace m_0 := (z5.cell (p := ⟨w4.heap.size, 0, none⟩) (by simp only []; omega)).trans m_0
  clear m_0
  have hlw5 : w4.heap.size ≤ w5.heap.size := by omega
  obtain ⟨w7, hw7⟩ : ∃ W, W = w5.alloc (.cells #[.slice xb xn xc] 44) := ⟨_, rfl⟩
  have z7 : Below w5.heap.size w5 w7 := by rw [hw7]; exact (Below.refl _ _).alloc (Nat.le_refl _) _
  have s7 : w7.heap.size = w5.heap.size + 1 := by rw [hw7]; simp
  have hb7 := on hb6 z7
  have old7_b_0 := b_0
  have old7_q_0 := q_0
  have old7_q_1 := q_1
  have old7_r_0 := r_0
  have old7_r_1 := r_1
  replace b_0 := (z7.cell (p := ⟨w.heap.size, 0, none⟩) (by simp only []; omega)).trans b_0
  replace q_0 := (z7.cell (p := ⟨w.heap.size + 1, 0, none⟩) (by simp only []; omega)).trans q_0
  replace q_1 := (z7.cell (p := ⟨w.heap.size + 1, 1, none⟩) (by simp only []; omega)).trans q_1
  replace r_0 := (z7.cell (p := ⟨w.heap.size + 1 + 1, 0, none⟩) (by simp only []; omega)).trans r_0
  replace r_1 := (z7.cell (p := ⟨w.heap.size + 1 + 1, 1, none⟩) (by simp only []; omega)).trans r_1
  replace r_f0 := (z7.frozen (p := ⟨w.heap.size + 1 + 1, 0, none⟩) (by simp only []; omega)).trans r_f0
  replace r_f1 := (z7.frozen (p := ⟨w.heap.size + 1 + 1, 1, none⟩) (by simp only []; omega)).trans r_f1
  replace ov := ov.below z7 (by omega)
  have l_0 : w7.cell? ⟨w5.heap.size, 0, none⟩ = some (.slice xb xn xc) := by rw [hw7]; exact box_cell (Below.refl _ _) rfl
  have raw7_b_0 := b_0
  have raw7_q_0 := q_0
  have raw7_q_1 := q_1
  have raw7_r_0 := r_0
  have raw7_r_1 := r_1
  have raw7_l_0 := l_0
  rw [hw7] at raw7_b_0 raw7_q_0 raw7_q_1 raw7_r_0 raw7_r_1 raw7_l_0
  have olist : Own oII w4.heap.size w7.heap.size w7 [.slice (some ⟨w5.heap.size, 0, none⟩) 1 1] [List.replicate n (-1)] := by
    rw [show w7 = w5.alloc (.cells #[.slice xb xn xc] 44) from by assumption]
    exact own_oneII (ox.mono (by omega) (Nat.le_refl _)) (Nat.le_refl _) hlw5
  clear ox
  clear l_0
  go_wp2_with fail
  rw [← hw7]
  clear hw7
  clear old7_b_0 old7_q_0 old7_q_1 old7_r_0 old7_r_1 raw7_b_0 raw7_q_0 raw7_q_1 raw7_r_0 raw7_r_1 raw7_l_0
  have hJ0 : joinAll n (raTo db xs K 0) = [List.replicate n (-1)] := rfl
  go_loopw [8, 38] (fun v k wr => ∃ (j : Nat) (lb : Option Addr) (ln lc : Nat), j ≤ qn ∧ k = .int .i64 j ∧ v = .slice lb ln lc ∧ Own oII w4.heap.size wr.heap.size wr [.slice lb ln lc] (joinAll n (raTo db xs K j)) ∧ Below w7.heap.size w7 wr) (fun _ k _ => qn - (intOf k).toNat)
  case atStart => exact ⟨0, _, _, _, Nat.zero_le _, rfl, rfl, by rw [hJ0]; exact olist, Below.refl _ _⟩
  case round =>
    obtain ⟨j, lb, ln, lc, hj, rfl, rfl, oL, hlc⟩ := hrel
    clear olist hJ0
    have hdr := hlc
    have s8 := hdr.size
    have hb8 := on hb7 hdr
    replace b_0 := (hdr.cell (p := ⟨w.heap.size, 0, none⟩) (by simp only []; omega)).trans b_0
    replace q_0 := (hdr.cell (p := ⟨w.heap.size + 1, 0, none⟩) (by simp only []; omega)).trans q_0
    replace q_1 := (hdr.cell (p := ⟨w.heap.size + 1, 1, none⟩) (by simp only []; omega)).trans q_1
    replace r_0 := (hdr.cell (p := ⟨w.heap.size + 1 + 1, 0, none⟩) (by simp only []; omega)).trans r_0
    replace r_1 := (hdr.cell (p := ⟨w.heap.size + 1 + 1, 1, none⟩) (by simp only []; omega)).trans r_1
    replace r_f0 := (hdr.frozen (p := ⟨w.heap.size + 1 + 1, 0, none⟩) (by simp only []; omega)).trans r_f0
    replace r_f1 := (hdr.frozen (p := ⟨w.heap.size + 1 + 1, 1, none⟩) (by simp only []; omega)).trans r_f1
    replace ov := ov.below hdr (by omega)
    obtain ⟨wl, rfl⟩ : ∃ W, W = wr := ⟨_, rfl⟩
    have hT1 : Below wl.heap.size wl wl := Below.refl _ _
    obtain ⟨hjl, hjr⟩ := HJF.out j (by omega)
    obtain ⟨l, hl9⟩ : ∃ l, joinAll n (raTo db xs K j) = l := ⟨_, rfl⟩
    rw [hl9] at oL hjl hjr
    have HL9 := Lib.hid hl9
    have t1 := rS_sl (oL.rd reads_II)
    have hln := t1.len
    have hlns := t1.small
    clear hl9
    by_cases hlt : j < qn
    · obtain ⟨b1, o1, cs, a, rfl, hx, hr, hc⟩ := t0.at hlt
      obtain ⟨m1, vs⟩ := a
      obtain ⟨ab, an, ac, rfl, hs, gv⟩ := rA_open hr
      have iv := rI_ints gv
      have hvl := iv.len
      have hms := List.mem_of_getElem? hx.out
      have hfa := HFA.out _ hms
      have hft := HFT.out _ hms
      have hv3 := HVL.out _ hms
      have HX := Lib.hid hx.out
      have e_lt : b1 < w.heap.size := cell_lt (hc 0 _ rfl)
      have e_0 : wl.cell? ⟨b1, o1 + j * 2, none⟩ = some (.string m1) := (hb8.cell (p := ⟨b1, o1 + j * 2, none⟩) e_lt).trans (by have h9 := hc 0 _ rfl; rw [← Nat.add_assoc] at h9; exact h9)
      have e_1 : wl.cell? ⟨b1, o1 + j * 2 + 1, none⟩ = some (.slice ab an ac) := (hb8.cell (p := ⟨b1, o1 + j * 2 + 1, none⟩) e_lt).trans (by have h9 := hc 1 _ rfl; rw [← Nat.add_assoc] at h9; exact h9)
      have hbt := bit_test0 K j (by omega)
      obtain ⟨bb, hbb⟩ : ∃ bb, bitAt K j = bb := ⟨_, rfl⟩
      rw [hbb] at hbt
      have HBB := Lib.hid hbb
      obtain ⟨w9, hw9⟩ : ∃ W, W = wl.alloc (.cells #[.string m1, .slice ab an ac] 110) := ⟨_, rfl⟩
      have z9 : Below wl.heap.size wl w9 := by rw [hw9]; exact (Below.refl _ _).alloc (Nat.le_refl _) _
      have s9 : w9.heap.size = wl.heap.size + 1 := by rw [hw9]; simp
      have hb9 := on hb8 z9
      have old9_b_0 := b_0
      have old9_q_0 := q_0
      have old9_q_1 := q_1
      have old9_r_0 := r_0
      have old9_r_1 := r_1
      have old9_e_0 := e_0
      have old9_e_1 := e_1
      replace b_0 := (z9.cell (p := ⟨w.heap.size, 0, none⟩) (by simp only []; omega)).trans b_0
      replace q_0 := (z9.cell (p := ⟨w.heap.size + 1, 0, none⟩) (by simp only []; omega)).trans q_0
      replace q_1 := (z9.cell (p := ⟨w.heap.size + 1, 1, none⟩) (by simp only []; omega)).trans q_1
      replace r_0 := (z9.cell (p := ⟨w.heap.size + 1 + 1, 0, none⟩) (by simp only []; omega)).trans r_0
      replace r_1 := (z9.cell (p := ⟨w.heap.size + 1 + 1, 1, none⟩) (by simp only []; omega)).trans r_1
      replace r_f0 := (z9.frozen (p := ⟨w.heap.size + 1 + 1, 0, none⟩) (by simp only []; omega)).trans r_f0
      replace r_f1 := (z9.frozen (p := ⟨w.heap.size + 1 + 1, 1, none⟩) (by simp only []; omega)).trans r_f1
      replace ov := ov.below z9 (by omega)
      replace hlc := on hlc z9
      replace hT1 := on hT1 z9
      replace oL := oL.below z9 (by omega)
      replace e_0 := (z9.cell (p := ⟨b1, o1 + j * 2, none⟩) (by simp only []; omega)).trans e_0
      replace e_1 := (z9.cell (p := ⟨b1, o1 + j * 2 + 1, none⟩) (by simp only []; omega)).trans e_1
      have a_0 : w9.cell? ⟨wl.heap.size, 0, none⟩ = some (.string m1) := by rw [hw9]; exact box_cell (Below.refl _ _) rfl
      have a_1 : w9.cell? ⟨wl.heap.size, 1, none⟩ = some (.slice ab an ac) := by rw [hw9]; exact box_cell (Below.refl _ _) rfl
      have raw9_b_0 := b_0
      have raw9_q_0 := q_0
      have raw9_q_1 := q_1
      have raw9_r_0 := r_0
      have raw9_r_1 := r_1
      have raw9_e_0 := e_0
      have raw9_e_1 := e_1
      have raw9_a_0 := a_0
      have raw9_a_1 := a_1
      rw [hw9] at raw9_b_0 raw9_q_0 raw9_q_1 raw9_r_0 raw9_r_1 raw9_e_0 raw9_e_1 raw9_a_0 raw9_a_1
      have hj64 : (j : Int) < 64 := by omega
      simp only at hs gv hfa hft hv3 hvl
      clear hc hx hr gv hbb hms
      cases bb with
      | false =>
        have HN : Hid (joinAll n (raTo db xs K (j + 1)) = l) := Lib.hid (by rw [raTo_no HBB.out, HL9.out])
        go_wp2_with fail
        rw [← hw9]
        clear hw9
        clear old9_b_0 old9_q_0 old9_q_1 old9_r_0 old9_r_1 old9_e_0 old9_e_1 raw9_b_0 raw9_q_0 raw9_q_1 raw9_r_0 raw9_r_1 raw9_e_0 raw9_e_1 raw9_a_0 raw9_a_1
        have HO := Lib.hid oL
        clear oL
        go_roundw
        case rel => exact ⟨j + 1, lb, ln, lc, by omega, by go_num, rfl, by rw [HN.out]; exact HO.out.mono (Nat.le_refl _) (by omega), hlc⟩
        case measure => simp [intOf]; omega
      | true =>
        have HN : Hid (joinAll n (raTo db xs K (j + 1)) = joinL ((lookT (look db m1)).2.2, vs) l) := Lib.hid (by rw [raTo_yes HX.out HBB.out, joinAll_snoc, HL9.out])
        have hc1 := fun W (hW : Below w.heap.size w W) => HCK.out m1 W hW
        obtain ⟨t, ht⟩ : ∃ t, lookT (look db m1) = t := ⟨_, rfl⟩
        obtain ⟨so, hso⟩ : ∃ so, (look db m1).isSome = so := ⟨_, rfl⟩
        simp only [ht, hso] at hc1
        rw [ht] at hfa hft HN
        have hrl := hft.len
        have HROW := Lib.hid hfa.row
        have HPLACE := Lib.hid (fun k (hk : k < vs.length) => hfa.place hk)
        obtain ⟨ns, A, r1⟩ := t
        simp only at hrl HROW HPLACE HN
        have HC1 := Lib.hid hc1
        clear hc1 ht hso hfa hft
        go_wp2_with fail
        rw [← hw9]
        clear hw9
        clear old9_b_0 old9_q_0 old9_q_1 old9_r_0 old9_r_1 old9_e_0 old9_e_1 raw9_b_0 raw9_q_0 raw9_q_1 raw9_r_0 raw9_r_1 raw9_e_0 raw9_e_1 raw9_a_0 raw9_a_1
        refine (HC1.out _ hb9).mono ?_
        rintro e wt ⟨tb, tn, tc, rfl, oT9, zt⟩
        have s10 := zt.size
        have hb10 := on hb9 zt
        replace b_0 := (zt.cell (p := ⟨w.heap.size, 0, none⟩) (by simp only []; omega)).trans b_0
        replace q_0 := (zt.cell (p := ⟨w.heap.size + 1, 0, none⟩) (by simp only []; omega)).trans q_0
        replace q_1 := (zt.cell (p := ⟨w.heap.size + 1, 1, none⟩) (by simp only []; omega)).trans q_1
        replace r_0 := (zt.cell (p := ⟨w.heap.size + 1 + 1, 0, none⟩) (by simp only []; omega)).trans r_0
        replace r_1 := (zt.cell (p := ⟨w.heap.size + 1 + 1, 1, none⟩) (by simp only []; omega)).trans r_1
        replace r_f0 := (zt.frozen (p := ⟨w.heap.size + 1 + 1, 0, none⟩) (by simp only []; omega)).trans r_f0
        replace r_f1 := (zt.frozen (p := ⟨w.heap.size + 1 + 1, 1, none⟩) (by simp only []; omega)).trans r_f1
        replace ov := ov.below zt (by omega)
        replace hlc := on hlc zt
        replace hT1 := on hT1 zt
        replace oL := oL.below zt (by omega)
        replace e_0 := (zt.cell (p := ⟨b1, o1 + j * 2, none⟩) (by simp only []; omega)).trans e_0
        replace e_1 := (zt.cell (p := ⟨b1, o1 + j * 2 + 1, none⟩) (by simp only []; omega)).trans e_1
        replace a_0 := (zt.cell (p := ⟨wl.heap.size, 0, none⟩) (by simp only []; omega)).trans a_0
        replace a_1 := (zt.cell (p := ⟨wl.heap.size, 1, none⟩) (by simp only []; omega)).trans a_1
        have t2 := ownT_rows9 oT9
        have htl := t2.len
        have htn8 : tn ≤ 8 := by omega
        obtain ⟨w11, hw11⟩ : ∃ W, W = wt.alloc (.cells #[.string ns, .int .i64 A, .slice tb tn tc] 54) := ⟨_, rfl⟩
        have z11 : Below wt.heap.size wt w11 := by rw [hw11]; exact (Below.refl _ _).alloc (Nat.le_refl _) _
        have s11 : w11.heap.size = wt.heap.size + 1 := by rw [hw11]; simp
        have hb11 := on hb10 z11
        have old11_b_0 := b_0
        have old11_q_0 := q_0
        have old11_q_1 := q_1
        have old11_r_0 := r_0
        have old11_r_1 := r_1
        have old11_e_0 := e_0
        have old11_e_1 := e_1
        have old11_a_0 := a_0
        have old11_a_1 := a_1
        replace b_0 := (z11.cell (p := ⟨w.heap.size, 0, none⟩) (by simp only []; omega)).trans b_0
        replace q_0 := (z11.cell (p := ⟨w.heap.size + 1, 0, none⟩) (by simp only []; omega)).trans q_0
        replace q_1 := (z11.cell (p := ⟨w.heap.size + 1, 1, none⟩) (by simp only []; omega)).trans q_1
        replace r_0 := (z11.cell (p := ⟨w.heap.size + 1 + 1, 0, none⟩) (by simp only []; omega)).trans r_0
        replace r_1 := (z11.cell (p := ⟨w.heap.size + 1 + 1, 1, none⟩) (by simp only []; omega)).trans r_1
        replace r_f0 := (z11.frozen (p := ⟨w.heap.size + 1 + 1, 0, none⟩) (by simp only []; omega)).trans r_f0
        replace r_f1 := (z11.frozen (p := ⟨w.heap.size + 1 + 1, 1, none⟩) (by simp only []; omega)).trans r_f1
        replace ov := ov.below z11 (by omega)
        replace hlc := on hlc z11
        replace hT1 := on hT1 z11
        replace oL := oL.below z11 (by omega)
        replace e_0 := (z11.cell (p := ⟨b1, o1 + j * 2, none⟩) (by simp only []; omega)).trans e_0
        replace e_1 := (z11.cell (p := ⟨b1, o1 + j * 2 + 1, none⟩) (by simp only []; omega)).trans e_1
        replace a_0 := (z11.cell (p := ⟨wl.heap.size, 0, none⟩) (by simp only []; omega)).trans a_0
        replace a_1 := (z11.cell (p := ⟨wl.heap.size, 1, none⟩) (by simp only []; omega)).trans a_1
        have t_0 : w11.cell? ⟨wt.heap.size, 0, none⟩ = some (.string ns) := by rw [hw11]; exact box_cell (Below.refl _ _) rfl
        have t_1 : w11.cell? ⟨wt.heap.size, 1, none⟩ = some (.int .i64 A) := by rw [hw11]; exact box_cell (Below.refl _ _) rfl
        have t_2 : w11.cell? ⟨wt.heap.size, 2, none⟩ = some (.slice tb tn tc) := by rw [hw11]; exact box_cell (Below.refl _ _) rfl
        have raw11_b_0 := b_0
        have raw11_q_0 := q_0
        have raw11_q_1 := q_1
        have raw11_r_0 := r_0
        have raw11_r_1 := r_1
        have raw11_e_0 := e_0
        have raw11_e_1 := e_1
        have raw11_a_0 := a_0
        have raw11_a_1 := a_1
        have raw11_t_0 := t_0
        have raw11_t_1 := t_1
        have raw11_t_2 := t_2
        rw [hw11] at raw11_b_0 raw11_q_0 raw11_q_1 raw11_r_0 raw11_r_1 raw11_e_0 raw11_e_1 raw11_a_0 raw11_a_1 raw11_t_0 raw11_t_1 raw11_t_2
        have hT2 : Below wt.heap.size wt w11 := by
          rw [show w11 = wt.alloc (.cells #[.string ns, .int .i64 A, .slice tb tn tc] 54) from by assumption]
          exact (Below.refl _ _).alloc (Nat.le_refl _) _
        clear oT9 HC1
        obtain ⟨w12, hw12⟩ : ∃ W, W = w11.alloc (.cells #[] 44) := ⟨_, rfl⟩
        have z12 : Below w11.heap.size w11 w12 := by rw [hw12]; exact (Below.refl _ _).alloc (Nat.le_refl _) _
        have s12 : w12.heap.size = w11.heap.size + 1 := by rw [hw12]; simp
        have hb12 := on hb11 z12
        replace b_0 := (z12.cell (p := ⟨w.heap.size, 0, none⟩) (by simp only []; omega)).trans b_0
        replace q_0 := (z12.cell (p := ⟨w.heap.size + 1, 0, none⟩) (by simp only []; omega)).trans q_0
        replace q_1 := (z12.cell (p := ⟨w.heap.size + 1, 1, none⟩) (by simp only []; omega)).trans q_1
        replace r_0 := (z12.cell (p := ⟨w.heap.size + 1 + 1, 0, none⟩) (by simp only []; omega)).trans r_0
        replace r_1 := (z12.cell (p := ⟨w.heap.size + 1 + 1, 1, none⟩) (by simp only []; omega)).trans r_1
        replace r_f0 := (z12.frozen (p := ⟨w.heap.size + 1 + 1, 0, none⟩) (by simp only []; omega)).trans r_f0
        replace r_f1 := (z12.frozen (p := ⟨w.heap.size + 1 + 1, 1, none⟩) (by simp only []; omega)).trans r_f1
        replace ov := ov.below z12 (by omega)
        replace hlc := on hlc z12
        replace hT1 := on hT1 z12
        replace oL := oL.below z12 (by omega)
        replace e_0 := (z12.cell (p := ⟨b1, o1 + j * 2, none⟩) (by simp only []; omega)).trans e_0
        replace e_1 := (z12.cell (p := ⟨b1, o1 + j * 2 + 1, none⟩) (by simp only []; omega)).trans e_1
        replace a_0 := (z12.cell (p := ⟨wl.heap.size, 0, none⟩) (by simp only []; omega)).trans a_0
        replace a_1 := (z12.cell (p := ⟨wl.heap.size, 1, none⟩) (by simp only []; omega)).trans a_1
        replace t_0 := (z12.cell (p := ⟨wt.heap.size, 0, none⟩) (by simp only []; omega)).trans t_0
        replace t_1 := (z12.cell (p := ⟨wt.heap.size, 1, none⟩) (by simp only []; omega)).trans t_1
        replace t_2 := (z12.cell (p := ⟨wt.heap.size, 2, none⟩) (by simp only []; omega)).trans t_2
        replace hT2 := on hT2 z12
        have hnx : ∀ S, Acc 44 oI w11.heap.size S w12.heap.size w12 (.slice (some ⟨wt.heap.size + 1, 0, none⟩) 0 0) [] := fun S => by rw [hw12]; exact Acc.empty (by omega) (by first | (simp; done) | (simp; omega))
        have raw12_b_0 := b_0
        have raw12_q_0 := q_0
        have raw12_q_1 := q_1
        have raw12_r_0 := r_0
        have raw12_r_1 := r_1
        have raw12_e_0 := e_0
        have raw12_e_1 := e_1
        have raw12_a_0 := a_0
        have raw12_a_1 := a_1
        have raw12_t_0 := t_0
        have raw12_t_1 := t_1
        have raw12_t_2 := t_2
        rw [hw12, hw11] at raw12_b_0 raw12_q_0 raw12_q_1 raw12_r_0 raw12_r_1 raw12_e_0 raw12_e_1 raw12_a_0 raw12_a_1 raw12_t_0 raw12_t_1 raw12_t_2
        go_wp2_with fail
        rw [← hw11]
        rw [← hw12]
        clear hw12 hw11
        clear old11_b_0 old11_q_0 old11_q_1 old11_r_0 old11_r_1 old11_e_0 old11_e_1 old11_a_0 old11_a_1 raw11_b_0 raw11_q_0 raw11_q_1 raw11_r_0 raw11_r_1 raw11_e_0 raw11_e_1 raw11_a_0 raw11_a_1 raw11_t_0 raw11_t_1 raw11_t_2 raw12_b_0 raw12_q_0 raw12_q_1 raw12_r_0 raw12_r_1 raw12_e_0 raw12_e_1 raw12_a_0 raw12_a_1 raw12_t_0 raw12_t_1 raw12_t_2
        have c_a_1 := a_1
        have c_hT1 := hT1
        have c_hT2 := hT2
        have hlc2 := hlc
        have hlW2 : w11.heap.size < w12.heap.size := by omega
        have htlo : wt.heap.size < w11.heap.size := by omega
        have hllo : wl.heap.size < w11.heap.size := by omega
        go_loopw [13, 58] (fun v k wr => ∃ i : Nat, i ≤ ln ∧ k = .int .i64 i ∧ Acc 44 oI w11.heap.size w12.heap.size wr.heap.size wr v (joinL (r1, vs) (l.take i)) ∧ Turn w11.heap.size (w11.heap.size + 1) w12 wr) (fun _ k _ => ln - (intOf k).toNat)
        case atStart => exact ⟨0, Nat.zero_le _, rfl, by rw [List.take_zero]; exact (hnx _).wide (Nat.le_refl _) (by omega), turn_refl _ _ _⟩
        case round =>
          obtain ⟨i, hi, rfl, hacc, hdr2⟩ := hrel
          have ht3 := hdr2
          clear hnx
          clear hT1 hT2 hlc
          have s13 := hdr2.size
          have hb13 := hb12.trans ((hdr2.below (by omega)).mono (by omega))
          replace b_0 := (hdr2.cell (p := ⟨w.heap.size, 0, none⟩) (by simp only []; omega) (by simp only []; omega)).trans b_0
          replace q_0 := (hdr2.cell (p := ⟨w.heap.size + 1, 0, none⟩) (by simp only []; omega) (by simp only []; omega)).trans q_0
          replace q_1 := (hdr2.cell (p := ⟨w.heap.size + 1, 1, none⟩) (by simp only []; omega) (by simp only []; omega)).trans q_1
          replace r_0 := (hdr2.cell (p := ⟨w.heap.size + 1 + 1, 0, none⟩) (by simp only []; omega) (by simp only []; omega)).trans r_0
          replace r_1 := (hdr2.cell (p := ⟨w.heap.size + 1 + 1, 1, none⟩) (by simp only []; omega) (by simp only []; omega)).trans r_1
          replace r_f0 := (World.frozen?_of_block (a := ⟨w.heap.size + 1 + 1, 0, none⟩) (hdr2.block _ (by simp only []; omega) (by simp only []; omega))).trans r_f0
          replace r_f1 := (World.frozen?_of_block (a := ⟨w.heap.size + 1 + 1, 1, none⟩) (hdr2.block _ (by simp only []; omega) (by simp only []; omega))).trans r_f1
          replace ov := ov.turn hdr2 (by omega)
          replace oL := oL.turn hdr2 (by omega)
          replace e_0 := (hdr2.cell (p := ⟨b1, o1 + j * 2, none⟩) (by simp only []; omega) (by simp only []; omega)).trans e_0
          replace e_1 := (hdr2.cell (p := ⟨b1, o1 + j * 2 + 1, none⟩) (by simp only []; omega) (by simp only []; omega)).trans e_1
          replace a_0 := (hdr2.cell (p := ⟨wl.heap.size, 0, none⟩) (by simp only []; omega) (by simp only []; omega)).trans a_0
          replace a_1 := (hdr2.cell (p := ⟨wl.heap.size, 1, none⟩) (by simp only []; omega) (by simp only []; omega)).trans a_1
          replace t_0 := (hdr2.cell (p := ⟨wt.heap.size, 0, none⟩) (by simp only []; omega) (by simp only []; omega)).trans t_0
          replace t_1 := (hdr2.cell (p := ⟨wt.heap.size, 1, none⟩) (by simp only []; omega) (by simp only []; omega)).trans t_1
          replace t_2 := (hdr2.cell (p := ⟨wt.heap.size, 2, none⟩) (by simp only []; omega) (by simp only []; omega)).trans t_2
          by_cases hlti : i < ln
          · obtain ⟨b5, o5, xb, xn, xc, y, rfl, hcy, hy, iy, hxc1, hxc2⟩ := t1.row hlti
            have hb5 : b5 < wl.heap.size := cell_lt hcy
            have hTo : Below wl.heap.size wl wr := c_hT1.trans ((ht3.below (by omega)).mono (by omega))
            have hyl : y.length = n := hjr y (List.mem_of_getElem? hy.out)
            have iyl := iy.len
            have c0 : wr.cell? ⟨b5, o5 + i, none⟩ = some (.slice xb xn xc) := (hTo.cell (p := ⟨b5, o5 + i, none⟩) hb5).trans hcy
            have HA2 := Lib.hid (joinL_at (p := (r1, vs)) hy.out)
            have hjl3 := joinL_len (r1, vs) (l.take i)
            have hti := List.length_take_le i l
            have hm8 : (l.take i).length * r1.length ≤ 4096 * 8 := Nat.mul_le_mul (by omega) (by omega)
            simp only at hjl3
            clear hcy hy hTo
            go_wp2_with fail
            go_loopw [13, 65] (fun v k wr => ∃ m : Nat, m ≤ tn ∧ k = .int .i64 m ∧ Acc 44 oI w11.heap.size w12.heap.size wr.heap.size wr v (joinL (r1, vs) (l.take i) ++ joinRows vs y (r1.take m)) ∧ Turn w11.heap.size (w11.heap.size + 1) w12 wr) (fun _ k _ => tn - (intOf k).toNat)
            case atStart => exact ⟨0, Nat.zero_le _, rfl, by rw [List.take_zero, show joinRows vs y [] = [] from rfl, List.append_nil]; exact hacc, ht3⟩
            case round =>
              obtain ⟨m, hm, rfl, hacc3, ht4⟩ := hrel
              clear hacc ov oL
              clear b_0 q_0 q_1 r_0 r_1 r_f0 r_f1 e_0 e_1 a_0 a_1 t_0 t_1 t_2 c0
              have hbm : Below w.heap.size w wr := (hb12).trans ((ht4.below (by omega)).mono (by omega))
              have h4s := ht4.size
              obtain ⟨wm, rfl⟩ : ∃ W, W = wr := ⟨_, rfl⟩
              obtain ⟨va, vn', vc', rfl⟩ := hacc3.form3
              have a_1 : wm.cell? ⟨wl.heap.size, 1, none⟩ = some (.slice ab an ac) := (ht4.cell (p := ⟨wl.heap.size, 1, none⟩) (by simp only []; omega) (by simp only []; omega)).trans c_a_1
              have hTm : Below wl.heap.size wl wm := c_hT1.trans ((ht4.below (by omega)).mono (by omega))
              have hTm2 : Below wt.heap.size wt wm := c_hT2.trans ((ht4.below (by omega)).mono (by omega))
              have hjr3 := joinRows_len vs y (r1.take m)
              have htm := List.length_take_le m r1
              by_cases hltm : m < tn
              · obtain ⟨b6, o6, yb, yn, yc, r, rfl, hcr, hr, ir, _⟩ := t2.row hltm
                have hb6 : b6 < wt.heap.size := cell_lt hcr
                have r0 : wm.cell? ⟨b6, o6 + m, none⟩ = some (.slice yb yn yc) := (hTm2.cell (p := ⟨b6, o6 + m, none⟩) hb6).trans hcr
                have hrl9 := (HROW.out r (List.mem_of_getElem? hr.out)).1
                have irl := ir.len
                have HRA := Lib.hid (joinRows_at (av := vs) (x := y) hr.out)
                have iym := iy.below hTm
                clear hcr hr
                go_wp2_with fail
                refine (copyInts_any (.slice xb xn xc) y _ (rS_mk iym.sl hxc1 hxc2) (by omega)).mono ?_
                rintro e w8 ⟨ux, rfl, ox, z8⟩
                obtain ⟨gx, cpx, rfl, ow, hgl, hgh, hgs⟩ := own_row ox hyl (by omega)
                have hacc8 := hacc3.below z8 (Nat.le_refl _)
                have ht8 := ht4.trans (turn_below z8 (by omega))
                have hT8 := on hTm2 z8
                have s14 := z8.size
                have hb14 := on hbm z8
                replace a_1 := (z8.cell (p := ⟨wl.heap.size, 1, none⟩) (by simp only []; omega)).trans a_1
                replace r0 := (z8.cell (p := ⟨b6, o6 + m, none⟩) (by simp only []; omega)).trans r0
                clear ox hacc3 iym
                go_wp2_with fail
                go_loopw [19, 74] (fun s k wr => ∃ (q : Nat) (b : Bool), q ≤ an ∧ k = .int .i64 q ∧ s = .bool b ∧ Hid (b = fillOk vs r q y) ∧ OwnInts wm.heap.size wr (.slice (some ⟨gx, 0, none⟩) n cpx) n (fillX vs r q y) ∧ Turn gx (gx + 1) w8 wr) (fun _ k _ => an - (intOf k).toNat)
                case atStart => exact ⟨0, true, Nat.zero_le _, rfl, rfl, rfl, ow, turn_refl _ _ _⟩
                case round =>
                  obtain ⟨q, b, hqn, rfl, rfl, hB, how, ht5⟩ := hrel
                  have hgt := ht5
                  clear ow
                  have s15 := ht5.size
                  have hb15 := hb14.trans ((ht5.below (by omega)).mono (by omega))
                  replace a_1 := (ht5.cell (p := ⟨wl.heap.size, 1, none⟩) (by simp only []; omega) (by simp only []; omega)).trans a_1
                  replace r0 := (ht5.cell (p := ⟨b6, o6 + m, none⟩) (by simp only []; omega) (by simp only []; omega)).trans r0
                  by_cases hltq : q < an
                  · obtain ⟨cv, hcv, hcn⟩ := HPLACE.out q (by omega)
                    obtain ⟨b7, o7, u, rfl, hcu, hu, hu1, hu2⟩ := iv.get hltq
                    obtain rfl : u = (cv : Int) := by rw [← hu.out, hcv]
                    have hb7 : b7 < w.heap.size := cell_lt hcu
                    have u0 : wr.cell? ⟨b7, o7 + q, none⟩ = some (.int .i64 (cv : Int)) := ((hb15).cell (p := ⟨b7, o7 + q, none⟩) hb7).trans hcu
                    obtain ⟨b8, o8, zv, rfl, hcz, hz, hz1, hz2⟩ := ir.get (show q < yn by omega)
                    have hb8 : b8 < wt.heap.size := cell_lt hcz
                    have z0 : wr.cell? ⟨b8, o8 + q, none⟩ = some (.int .i64 zv) := ((hT8.trans ((hgt.below (by omega)).mono (by omega))).cell (p := ⟨b8, o8 + q, none⟩) hb8).trans hcz
                    obtain ⟨g0, gf0⟩ := how.cellAt hcn
                    obtain ⟨g, hg⟩ : ∃ g, (fillX vs r q y).getD cv 0 = g := ⟨_, rfl⟩
                    rw [hg] at g0
                    have HNB : Hid (fillOk vs r (q + 1) y = (b && (decide (g = -1) || decide (g = zv)))) := Lib.hid (by rw [fillOk, ← hB.out, fillAt, hcv, hz.out, Int.toNat_natCast, hg])
                    have HNX : Hid (fillX vs r (q + 1) y = (fillX vs r q y).set cv zv) := Lib.hid (by rw [fillX, hcv, hz.out, Int.toNat_natCast])
                    have HOW := Lib.hid (fun m9 => (how.turnIn m9).put hcn (show I64 zv from ⟨hz1, hz2⟩))
                    have HTT := Lib.hid (fun m9 => (hgt.trans (turn_below (Drew.below ⟨m9, rfl⟩ wr.heap.size) (Nat.le_refl _)) : Turn gx (gx + 1) w8 (wr.drewN m9)).setIn (p := ⟨gx, cv, none⟩) (Nat.le_refl _) (Nat.lt_succ_self _) (.int .i64 zv))
                    have hcvn : (cv : Int) < (n : Int) := by omega
                    have hqyn : (q : Int) < (yn : Int) := by omega
                    clear hcu hu hcv hcz hz how hB hg hgt ht5
                    cases b with
                    | false =>
                      have HN : Hid (false = fillOk vs r (q + 1) y) := Lib.hid (by rw [HNB.out]; rfl)
                      clear HNB
                      go_wp2_with fail
                      go_quiet (fail)
                      go_wp2_with fail
                      go_roundw
                      case rel => exact ⟨q + 1, false, by omega, by go_num, rfl, HN.out, by rw [HNX.out]; exact HOW.out _, HTT.out _⟩
                      case measure => simp [intOf]; omega
                    | true =>
                      by_cases hg1 : g = -1
                      · have HN : Hid (true = fillOk vs r (q + 1) y) := Lib.hid (by rw [HNB.out, decide_eq_true hg1]; rfl)
                        have d1 : (g == -1) = true := by rw [beq_iff_eq]; exact hg1
                        clear HNB hg1
                        go_wp2_with fail
                        go_quiet (fail)
                        go_wp2_with fail
                        go_roundw
                        case rel => exact ⟨q + 1, true, by omega, by go_num, rfl, HN.out, by rw [HNX.out]; exact HOW.out _, HTT.out _⟩
                        case measure => simp [intOf]; omega
                      · have d1 : (g == -1) = false := by rw [beq_eq_false_iff_ne]; exact hg1
                        by_cases hgz : g = zv
                        · have HN : Hid (true = fillOk vs r (q + 1) y) := Lib.hid (by rw [HNB.out, decide_eq_true hgz, Bool.or_true]; rfl)
                          have d2 : (g == zv) = true := by rw [beq_iff_eq]; exact hgz
                          clear HNB hg1 hgz
                          go_wp2_with fail
                          go_quiet (fail)
                          go_wp2_with fail
                          go_roundw
                          case rel => exact ⟨q + 1, true, by omega, by go_num, rfl, HN.out, by rw [HNX.out]; exact HOW.out _, HTT.out _⟩
                          case measure => simp [intOf]; omega
                        · have HN : Hid (false = fillOk vs r (q + 1) y) := Lib.hid (by rw [HNB.out, decide_eq_false hg1, decide_eq_false hgz]; rfl)
                          have d2 : (g == zv) = false := by rw [beq_eq_false_iff_ne]; exact hgz
                          clear HNB hg1 hgz
                          go_wp2_with fail
                          go_quiet (fail)
                          go_wp2_with fail
                          go_roundw
                          case rel => exact ⟨q + 1, false, by omega, by go_num, rfl, HN.out, by rw [HNX.out]; exact HOW.out _, HTT.out _⟩
                          case measure => simp [intOf]; omega
                  · obtain rfl : an = q := by omega
                    have hacc9 := Acc.apart hacc8 hgt hgl (by omega)
                    have ht9 := Turn.apart ht8 hgt (by omega)
                    have h9s := hgt.size
                    have HLEN : (joinL (r1, vs) (l.take i) ++ joinRows vs y (r1.take m)).length ≤ 100000000 := by rw [List.length_append]; omega
                    cases b with
                    | false =>
                      have HR9 : Hid (joinRows vs y (r1.take (m + 1)) = joinRows vs y (r1.take m)) := Lib.hid (by rw [HRA.out, hvl, ← hB.out]; simp)
                      have HC9 := Lib.hid (hacc9.wide (Nat.le_refl _) (show wm.heap.size ≤ wr.heap.size by omega))
                      have HT9 := Lib.hid ht9
                      clear hacc8 hacc9 ht9 how hB
                      go_wp2_with fail
                      go_roundw
                      case rel => exact ⟨m + 1, by omega, by go_num, by rw [HR9.out]; exact HC9.out, HT9.out⟩
                      case measure => simp [intOf]; omega
                    | true =>
                      have HR9 : Hid (joinL (r1, vs) (l.take i) ++ joinRows vs y (r1.take (m + 1)) = (joinL (r1, vs) (l.take i) ++ joinRows vs y (r1.take m)) ++ [fillX vs r an y]) := Lib.hid (by rw [HRA.out, hvl, ← hB.out, List.append_assoc]; simp)
                      obtain ⟨v', wN, hrun, haccN, htN, hsN, _⟩ := run_acc Try.underlying52 infoI rfl (by decide) (by decide) rfl (lo := w11.heap.size) (W0 := w12) 52 _ _ [.slice (some ⟨gx, 0, none⟩) n cpx] (fillX vs r an y) hacc9 how.own (by intro z hz; simp at hz; subst hz; rfl) (by omega) (Nat.le_refl _) (by omega) (Nat.le_refl _) ht9 rfl (.inl rfl) (by omega) HLEN rfl
                      obtain ⟨va2, vn2, vc2, rfl⟩ := haccN.form3
                      have HC9 := Lib.hid haccN
                      have HT9 := Lib.hid htN
                      clear hacc8 hacc9 ht9 how hB haccN htN
                      go_wp2_with ((at_builtin; refine wpList_app_run hrun rfl rfl rfl rfl rfl ?_))
                      go_roundw
                      case rel => exact ⟨m + 1, by omega, by go_num, by rw [HR9.out]; exact HC9.out, HT9.out⟩
                      case measure => simp [intOf]; omega
              · obtain rfl : tn = m := by omega
                have HC3 : Hid (Acc 44 oI w11.heap.size w12.heap.size wm.heap.size wm (.slice va vn' vc') (joinL (r1, vs) (l.take (i + 1)))) := Lib.hid (by
                  rw [HA2.out]
                  rw [show r1.take tn = r1 from List.take_of_length_le (by omega)] at hacc3
                  exact hacc3)
                have HT3 := Lib.hid ht4
                clear hacc3 ht4
                go_wp2_with fail
                go_roundw
                case rel => exact ⟨i + 1, by omega, by go_num, HC3.out, HT3.out⟩
                case measure => simp [intOf]; omega
          · obtain rfl : ln = i := by omega
            obtain ⟨va, vn', vc', rfl⟩ := hacc.form3
            rw [List.take_of_length_le (by omega)] at hacc
            have HO : Hid (Own oII w4.heap.size wr.heap.size wr [.slice va vn' vc'] (joinAll n (raTo db xs K (j + 1)))) := Lib.hid (by rw [HN.out]; exact hacc.own (by omega) (by omega) (Nat.le_refl _))
            have HL := Lib.hid (hlc2.trans ((ht3.below (by omega)).mono (by omega)))
            clear hacc oL
            go_wp2_with fail
            go_roundw
            case rel => exact ⟨j + 1, va, vn', vc', by omega, by go_num, rfl, HO.out, HL.out⟩
            case measure => simp [intOf]; omega
    · obtain rfl : qn = j := by omega
      have HONE2 : Hid (canon (l.map (fun y => sel y V)) = E.2) := Lib.hid (by rw [← HL9.out, HALL.out]; exact HONE.out)
      have hselb : bulk_II (l.map (fun y => sel y V)) ≤ 100000000 := by
        have h1 : sumBy bulk_I (l.map (fun y => sel y V)) ≤ (l.map (fun y => sel y V)).length * 4 := sumBy_bound (fun r hr => by
          obtain ⟨y, _, rfl⟩ := List.mem_map.1 hr
          have := sel_len y V
          unfold bulk_I
          omega)
        rw [List.length_map] at h1
        unfold bulk_II
        rw [List.length_map]
        omega
      clear t0 HCK HJF HFA HFT HVL HONE HALL HL9 hjr
      clear b_0 q_0 q_1 hlc
      obtain ⟨w16, hw16⟩ : ∃ W, W = wl.alloc (.cells #[.slice vb vn vc, .slice none 0 0] 81) := ⟨_, rfl⟩
      have z16 : Below wl.heap.size wl w16 := by rw [hw16]; exact (Below.refl _ _).alloc (Nat.le_refl _) _
      have s16 : w16.heap.size = wl.heap.size + 1 := by rw [hw16]; simp
      have hb16 := on hb8 z16
      have old16_r_0 := r_0
      have old16_r_1 := r_1
      replace r_0 := (z16.cell (p := ⟨w.heap.size + 1 + 1, 0, none⟩) (by simp only []; omega)).trans r_0
      replace r_1 := (z16.cell (p := ⟨w.heap.size + 1 + 1, 1, none⟩) (by simp only []; omega)).trans r_1
      replace r_f0 := (z16.frozen (p := ⟨w.heap.size + 1 + 1, 0, none⟩) (by simp only []; omega)).trans r_f0
      replace r_f1 := (z16.frozen (p := ⟨w.heap.size + 1 + 1, 1, none⟩) (by simp only []; omega)).trans r_f1
      replace ov := ov.below z16 (by omega)
      replace hT1 := on hT1 z16
      replace oL := oL.below z16 (by omega)
      have o_0 : w16.cell? ⟨wl.heap.size, 0, none⟩ = some (.slice vb vn vc) := by rw [hw16]; exact box_cell (Below.refl _ _) rfl
      have o_1 : w16.cell? ⟨wl.heap.size, 1, none⟩ = some (.slice none 0 0) := by rw [hw16]; exact box_cell (Below.refl _ _) rfl
      have o_f0 : w16.frozen? ⟨wl.heap.size, 0, none⟩ = false := by rw [hw16]; exact box_frozen (Below.refl _ _)
      have o_f1 : w16.frozen? ⟨wl.heap.size, 1, none⟩ = false := by rw [hw16]; exact box_frozen (Below.refl _ _)
      have raw16_r_0 := r_0
      have raw16_r_1 := r_1
      have raw16_o_0 := o_0
      have raw16_o_1 := o_1
      rw [hw16] at raw16_r_0 raw16_r_1 raw16_o_0 raw16_o_1
      go_wp2_with fail
      rw [← hw16]
      clear hw16
      clear old16_r_0 old16_r_1 raw16_r_0 raw16_r_1 raw16_o_0 raw16_o_1
      have c_T := hT1
      go_loopw [119] (fun k wr => ∃ (i : Nat) (rb : Option Addr) (rn rc : Nat), i ≤ ln ∧ k = .int .i64 i ∧ (wr.cell? ⟨wl.heap.size, 0, none⟩ = some (.slice vb vn vc) ∧ wr.cell? ⟨wl.heap.size, 1, none⟩ = some (.slice rb rn rc) ∧ wr.frozen? ⟨wl.heap.size, 1, none⟩ = false) ∧ Acc 44 oI w16.heap.size w16.heap.size wr.heap.size wr (.slice rb rn rc) ((l.take i).map (fun y => sel y V)) ∧ Turn wl.heap.size (wl.heap.size + 1) w16 wr) (fun k _ => ln - (intOf k).toNat)
      case atStart => exact ⟨0, none, 0, 0, Nat.zero_le _, rfl, ⟨o_0, o_1, o_f1⟩, Acc.nil, turn_refl _ _ _⟩
      case round =>
        obtain ⟨i, rb, rn, rc, hi, rfl, ⟨y_0, y_1, y_f1⟩, hacc, hdr5⟩ := hrel
        have ht := hdr5
        clear o_0 o_1 o_f0 o_f1 hT1
        have hOW : wl.heap.size < w16.heap.size := by omega
        have s17 := hdr5.size
        have hb17 := hb16.trans ((hdr5.below (by omega)).mono (by omega))
        replace r_0 := (hdr5.cell (p := ⟨w.heap.size + 1 + 1, 0, none⟩) (by simp only []; omega) (by simp only []; omega)).trans r_0
        replace r_1 := (hdr5.cell (p := ⟨w.heap.size + 1 + 1, 1, none⟩) (by simp only []; omega) (by simp only []; omega)).trans r_1
        replace r_f0 := (World.frozen?_of_block (a := ⟨w.heap.size + 1 + 1, 0, none⟩) (hdr5.block _ (by simp only []; omega) (by simp only []; omega))).trans r_f0
        replace r_f1 := (World.frozen?_of_block (a := ⟨w.heap.size + 1 + 1, 1, none⟩) (hdr5.block _ (by simp only []; omega) (by simp only []; omega))).trans r_f1
        replace ov := ov.turn hdr5 (by omega)
        replace oL := oL.turn hdr5 (by omega)
        by_cases hlti : i < ln
        · obtain ⟨b5, o5, xb, xn, xc, y, rfl, hcy, hy, iy, hxc1, hxc2⟩ := t1.row hlti
          have hb5 : b5 < wl.heap.size := cell_lt hcy
          have hTo : Below wl.heap.size wl wr := c_T.trans ((ht.below (by omega)).mono (by omega))
          have c0 : wr.cell? ⟨b5, o5 + i, none⟩ = some (.slice xb xn xc) := (hTo.cell (p := ⟨b5, o5 + i, none⟩) hb5).trans hcy
          have HTK : Hid ((l.take (i + 1)).map (fun y => sel y V) = (l.take i).map (fun y => sel y V) ++ [sel y V]) := Lib.hid (by rw [List.take_add_one, hy.out, List.map_append]; rfl)
          have hTK := List.length_take_le i l
          have iyo := iy.below hTo
          have iV := rI_ints (ov.rd reads_I)
          clear hcy hy hTo iy
          go_wp2_with fail
          refine (sel_impl _ _ _ _ xc vc y V _ iyo iV (by have := iV.len; omega)).mono ?_
          rintro e w8 ⟨sb, sn, sc, rfl, os, z8⟩
          have s8 := z8.size
          have hacc8 := hacc.below z8 (Nat.le_refl _)
          have ht8 := ht.trans (turn_below z8 (by omega))
          have x_0 := (z8.cell (p := ⟨wl.heap.size, 0, none⟩) (by simp only []; omega)).trans y_0
          have x_1 := (z8.cell (p := ⟨wl.heap.size, 1, none⟩) (by simp only []; omega)).trans y_1
          have x_f1 := (z8.frozen (p := ⟨wl.heap.size, 1, none⟩) (by simp only []; omega)).trans y_f1
          have s18 := z8.size
          have hb18 := on hb17 z8
          replace r_0 := (z8.cell (p := ⟨w.heap.size + 1 + 1, 0, none⟩) (by simp only []; omega)).trans r_0
          replace r_1 := (z8.cell (p := ⟨w.heap.size + 1 + 1, 1, none⟩) (by simp only []; omega)).trans r_1
          replace r_f0 := (z8.frozen (p := ⟨w.heap.size + 1 + 1, 0, none⟩) (by simp only []; omega)).trans r_f0
          replace r_f1 := (z8.frozen (p := ⟨w.heap.size + 1 + 1, 1, none⟩) (by simp only []; omega)).trans r_f1
          replace ov := ov.below z8 (by omega)
          replace oL := oL.below z8 (by omega)
          replace c0 := (z8.cell (p := ⟨b5, o5 + i, none⟩) (by simp only []; omega)).trans c0
          obtain ⟨v', wN, hrun, haccN, htN, hsN, hkN⟩ := run_acc Try.underlying52 infoI rfl (by decide) (by decide) rfl (lo := wl.heap.size) (W0 := w16) 52 _ _ [.slice sb sn sc] (sel y V) hacc8 os (by intro z hz; simp at hz; subst hz; rfl) (by omega) (Nat.le_refl _) (by omega) (Nat.le_refl _) ht8 rfl (.inr (Nat.le_refl _)) (by omega) (by rw [List.length_map]; omega) rfl
          obtain ⟨rb2, rn2, rc2, rfl⟩ := haccN.form3
          have hkO := hkN wl.heap.size (by omega) (by omega)
          have n_0 := (World.cell?_of_block (a := ⟨wl.heap.size, 0, none⟩) hkO).trans x_0
          have n_1 := (World.cell?_of_block (a := ⟨wl.heap.size, 1, none⟩) hkO).trans x_1
          have n_f1 := (World.frozen?_of_block (a := ⟨wl.heap.size, 1, none⟩) hkO).trans x_f1
          have k0 : (wN.setCell ⟨wl.heap.size, 1, none⟩ (.slice rb2 rn2 rc2)).cell? ⟨wl.heap.size, 0, none⟩ = some (.slice vb vn vc) := by go_simp
          have k1 : (wN.setCell ⟨wl.heap.size, 1, none⟩ (.slice rb2 rn2 rc2)).cell? ⟨wl.heap.size, 1, none⟩ = some (.slice rb2 rn2 rc2) := by go_simp
          have k2 : (wN.setCell ⟨wl.heap.size, 1, none⟩ (.slice rb2 rn2 rc2)).frozen? ⟨wl.heap.size, 1, none⟩ = false := by go_simp
          have HAN := Lib.hid (haccN.setOut (p := ⟨wl.heap.size, 1, none⟩) (hi' := (wN.setCell ⟨wl.heap.size, 1, none⟩ (.slice rb2 rn2 rc2)).heap.size) (.slice rb2 rn2 rc2) (by simp only []; omega) (by simp only []; omega) (by simp [World.setCell]))
          have HTN := Lib.hid (htN.setIn (p := ⟨wl.heap.size, 1, none⟩) (Nat.le_refl _) (Nat.lt_succ_self _) (.slice rb2 rn2 rc2))
          clear hacc hacc8 ht8 haccN htN hkN hkO os y_0 y_1 y_f1 iyo iV
          go_wp2_with ((at_builtin; refine wpList_app_run hrun rfl rfl rfl rfl rfl ?_))
          go_roundw
          case rel => exact ⟨i + 1, rb2, rn2, rc2, by omega, by go_num, ⟨k0, k1, k2⟩, by rw [HTK.out]; exact HAN.out, HTN.out⟩
          case measure => simp [intOf]; omega
        · obtain rfl : ln = i := by omega
          rw [show l.take ln = l from List.take_of_length_le (by omega)] at hacc
          have HR := Lib.hid ((hacc.own (B := 0) (Nat.zero_le _) (Nat.zero_le _) (Nat.le_refl _)).rd reads_II)
          clear hacc
          go_wp2_with fail
          refine (sorted_any _ _ _ HR.out hselb).mono ?_
          rintro e w9 ⟨us, rfl, os, z9⟩
          obtain ⟨sb, sn, sc, rfl⟩ := oII_form1 os
          have x_0 := (z9.cell (p := ⟨wl.heap.size, 0, none⟩) (by simp only []; omega)).trans y_0
          have x_1 := (z9.cell (p := ⟨wl.heap.size, 1, none⟩) (by simp only []; omega)).trans y_1
          have x_f1 := (z9.frozen (p := ⟨wl.heap.size, 1, none⟩) (by simp only []; omega)).trans y_f1
          clear y_0 y_1 y_f1
          have s19 := z9.size
          have hb19 := on hb17 z9
          replace r_0 := (z9.cell (p := ⟨w.heap.size + 1 + 1, 0, none⟩) (by simp only []; omega)).trans r_0
          replace r_1 := (z9.cell (p := ⟨w.heap.size + 1 + 1, 1, none⟩) (by simp only []; omega)).trans r_1
          replace r_f0 := (z9.frozen (p := ⟨w.heap.size + 1 + 1, 0, none⟩) (by simp only []; omega)).trans r_f0
          replace r_f1 := (z9.frozen (p := ⟨w.heap.size + 1 + 1, 1, none⟩) (by simp only []; omega)).trans r_f1
          replace ov := ov.below z9 (by omega)
          replace oL := oL.below z9 (by omega)
          have hX : Turn wl.heap.size (wl.heap.size + 1) w9 (w9.setCell ⟨wl.heap.size, 1, none⟩ (.slice sb sn sc)) := Turn.setIn (turn_refl wl.heap.size (wl.heap.size + 1) w9) (p := ⟨wl.heap.size, 1, none⟩) (Nat.le_refl _) (Nat.lt_succ_self _) _
          have HOA : Hid (Own oAn (w.heap.size + 3) w9.heap.size (w9.setCell ⟨wl.heap.size, 1, none⟩ (.slice sb sn sc)) [.slice vb vn vc, .slice sb sn sc] E) := Lib.hid (oAn_mk (x := E) (by rw [HE1.out]; exact ov.turn hX (by omega)) (by rw [← HONE2.out]; exact os.turn hX (by omega)) (by omega) (by omega) (by omega) (by omega) (by omega))
          clear os ov oL hX HR
          go_wp2_with fail
          refine bodyPost_ret (v := .agg #[.slice vb vn vc, .slice sb sn sc]) (by simp [results, Try.results109, go_sem, x_0, x_1, x_f1, r_0, r_1, r_f0, r_f1]) rfl ⟨_, rfl, ?_, ?_⟩
          · refine Own.mono (lo := w.heap.size + 3) (hi := w9.heap.size) ?_ (by omega) (by simp [World.setCell])
            refine Own.setOut ?_ rfl (by simp only []; omega)
            refine Own.setOut ?_ rfl (by simp only []; omega)
            exact HOA.out
          · repeat (refine Below.setCell ?_ (by simp only []; omega) _)
            exact hb19

end Go.Proofs.Ytkipgbgkhffkkaa
