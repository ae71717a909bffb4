/- Texts joined for one claim: ValidDb, ValidQI, ValidQS, Fits, Look, Many, MaskC, NearP, RepI, Sorted. -/
import Derived.Test.YtkipgbgkhffkkaaGreatQ7f6ba64732
import Derived.Deep.RegionHeld3
import Derived.Laws.IdiomCopy
import Derived.Shelf.SlSortCmp.NoneTotal

/- Contracts: whether a database is valid. -/
namespace Go.Proofs.YtkipgbgkhffkkaaGreat
open Go.RowKit Go.Sort
set_option linter.unusedVariables false
set_option linter.unusedSimpArgs false
set_option synthInstance.maxSize 2000
set_option synthInstance.maxHeartbeats 400000

/-- Names compared. -/
def ltB (s t : ByteArray) : Bool := Op.bytesLess s.toList t.toList
def dbFrom (p : Option ByteArray) : List DT → Bool
  | [] => true
  | t :: r => validT t && ((match p with | none => true | some q => ltB q t.1) && dbFrom (some t.1) r)
/-- Whether a database is valid. -/
def validDb (db : DDb) : Bool := dbFrom none db && decide (db.length ≤ 6)
def prevN (db : List DT) : Nat → Option ByteArray
  | 0 => none
  | j + 1 => (db[j]?).map (fun t => t.1)
theorem dbFrom_at {p : Option ByteArray} {db : List DT} {j : Nat} {t : DT} (h : db[j]? = some t) : dbFrom p (db.drop j) = (validT t && ((match p with | none => true | some q => ltB q t.1) && dbFrom (some t.1) (db.drop (j + 1)))) := by
  rw [drop_at h]; rfl
theorem dbFrom_end {p : Option ByteArray} {db : List DT} {j : Nat} (h : db.length ≤ j) : dbFrom p (db.drop j) = true := by
  rw [List.drop_eq_nil_of_le h]; rfl
theorem prevN_at {db : List DT} {j : Nat} {t : DT} (h : db[j]? = some t) : prevN db (j + 1) = some t.1 := by simp [prevN, h]
theorem validDb_no {db : DDb} (h : dbFrom none db = false) : validDb db = false := by simp [validDb, h]
theorem validDb_len {db : DDb} {n : Nat} (hl : db.length = n) (h : dbFrom none db = true) : validDb db = decide ((n : Int) ≤ 6) := by
  rw [validDb, h, hl, Bool.eq_iff_iff]; simp only [Bool.true_and, decide_eq_true_eq]; omega

set_option maxHeartbeats 4000000 in
theorem validDb_impl (cs : List Value) (x : DDb) (w : World) (h : rDb.rep w cs x) :
    Calls Tryz.prog 126 #[.agg cs.toArray] w fun e w' => e = .returned (.bool (validDb x)) ∧ Below w.heap.size w w' := by
  obtain ⟨ub, un, uc, rfl, g1⟩ := rDb_open h
  clear h
  have t1 := rS_sl g1
  have hl := t1.len
  have hn := t1.small
  have HV : Hid (dbFrom none x = dbFrom (prevN x 0) (x.drop 0)) := rfl
  have HL := Lib.hid hl
  have hb0 : Below w.heap.size w w := Below.refl _ _
  go_enter Tryz.func126, Tryz.ntmps126
  obtain ⟨w1, hw1⟩ : ∃ W, W = w.alloc (.cells #[.slice ub un uc] 34) := ⟨_, rfl⟩
  have z1 : Below w.heap.size w w1 := by rw [hw1]; exact (Below.refl _ _).alloc (Nat.le_refl _) _
  have s1 : w1.heap.size = w.heap.size + 1 := by rw [hw1]; simp
  have hb1 := on hb0 z1
  have b_0 : w1.cell? ⟨w.heap.size, 0, none⟩ = some (.slice ub un uc) := by rw [hw1]; exact box_cell (Below.refl _ _) rfl
  have raw1_b_0 := b_0
  rw [hw1] at raw1_b_0
  go_wp2_with fail
  rw [← hw1]
  clear hw1
  clear raw1_b_0
  go_loopw [8] (fun k wr => ∃ j : Nat, j ≤ un ∧ k = .int .i64 j ∧ Hid (dbFrom none x = dbFrom (prevN x j) (x.drop j)) ∧ Below w1.heap.size w1 wr) (fun k _ => un - (intOf k).toNat)
  case atStart => exact ⟨0, Nat.zero_le _, rfl, HV.out, Below.refl _ _⟩
  case round =>
    obtain ⟨j, hj, rfl, hE, hdr⟩ := hrel
    obtain ⟨wo, rfl⟩ : ∃ W, W = wr := ⟨_, rfl⟩
    have hlc := hdr
    have s2 := hdr.size
    have hb2 := on hb1 hdr
    replace b_0 := (hdr.cell (p := ⟨w.heap.size, 0, none⟩) (by simp only []; omega)).trans b_0
    by_cases hlt : j < un
    · obtain ⟨b1, o1, cs, t, rfl, hx, hr, hc⟩ := t1.at hlt
      have HA := Lib.hid (hE.out.trans (dbFrom_at hx.out))
      have HP := Lib.hid (prevN_at hx.out)
      obtain ⟨s, i, rows⟩ := t
      obtain ⟨tb, tn, tc, rfl, hs, hi, g2⟩ := rT_open hr
      simp only at hs hi g2 HA HP
      have e_lt : b1 < w.heap.size := cell_lt (hc 0 _ rfl)
      have e_0 : wo.cell? ⟨b1, o1 + j * 3, none⟩ = some (.string s) := (hb2.cell (p := ⟨b1, o1 + j * 3, none⟩) e_lt).trans (by have h9 := hc 0 _ rfl; rw [← Nat.add_assoc] at h9; exact h9)
      have e_1 : wo.cell? ⟨b1, o1 + j * 3 + 1, none⟩ = some (.int .i64 i) := (hb2.cell (p := ⟨b1, o1 + j * 3 + 1, none⟩) e_lt).trans (by have h9 := hc 1 _ rfl; rw [← Nat.add_assoc] at h9; exact h9)
      have e_2 : wo.cell? ⟨b1, o1 + j * 3 + 2, none⟩ = some (.slice tb tn tc) := (hb2.cell (p := ⟨b1, o1 + j * 3 + 2, none⟩) e_lt).trans (by have h9 := hc 2 _ rfl; rw [← Nat.add_assoc] at h9; exact h9)
      have hcall := fun W (hW : Below w.heap.size w W) => validT_impl [.string s, .int .i64 i, .slice tb tn tc] (s, i, rows) W (rT.mono hr hW)
      obtain ⟨v, hv⟩ : ∃ v, v = validT (s, i, rows) := ⟨_, rfl⟩
      rw [← hv] at hcall HA
      have HC := Lib.hid hcall
      clear hcall hv hE HV hc hr g2 hl
      by_cases hj0 : j = 0
      · subst hj0
        have z_0 : wo.cell? ⟨b1, o1, none⟩ = some (.string s) := by have h9 := e_0; rw [Nat.zero_mul, Nat.add_zero] at h9; exact h9
        have z_1 : wo.cell? ⟨b1, o1 + 1, none⟩ = some (.int .i64 i) := by have h9 := e_1; rw [Nat.zero_mul, Nat.add_zero] at h9; exact h9
        have z_2 : wo.cell? ⟨b1, o1 + 2, none⟩ = some (.slice tb tn tc) := by have h9 := e_2; rw [Nat.zero_mul, Nat.add_zero] at h9; exact h9
        clear e_0 e_1 e_2
        have HA1 : Hid (dbFrom none x = (v && dbFrom (prevN x (0 + 1)) (x.drop (0 + 1)))) := Lib.hid (by rw [HA.out, HP.out]; simp [prevN])
        clear hx HA HP t1
        cases v with
        | true =>
          have HE : Hid (dbFrom none x = dbFrom (prevN x (0 + 1)) (x.drop (0 + 1))) := Lib.hid (by rw [HA1.out]; rfl)
          obtain ⟨w3, hw3⟩ : ∃ W, W = wo.alloc (.cells #[.string s, .int .i64 i, .slice tb tn tc] 65) := ⟨_, rfl⟩
          have z3 : Below wo.heap.size wo w3 := by rw [hw3]; exact (Below.refl _ _).alloc (Nat.le_refl _) _
          have s3 : w3.heap.size = wo.heap.size + 1 := by rw [hw3]; simp
          have hb3 := on hb2 z3
          have old3_b_0 := b_0
          have old3_z_0 := z_0
          have old3_z_1 := z_1
          have old3_z_2 := z_2
          replace b_0 := (z3.cell (p := ⟨w.heap.size, 0, none⟩) (by simp only []; omega)).trans b_0
          replace hlc := on hlc z3
          replace z_0 := (z3.cell (p := ⟨b1, o1, none⟩) (by simp only []; omega)).trans z_0
          replace z_1 := (z3.cell (p := ⟨b1, o1 + 1, none⟩) (by simp only []; omega)).trans z_1
          replace z_2 := (z3.cell (p := ⟨b1, o1 + 2, none⟩) (by simp only []; omega)).trans z_2
          have p_0 : w3.cell? ⟨wo.heap.size, 0, none⟩ = some (.string s) := by rw [hw3]; exact box_cell (Below.refl _ _) rfl
          have p_1 : w3.cell? ⟨wo.heap.size, 1, none⟩ = some (.int .i64 i) := by rw [hw3]; exact box_cell (Below.refl _ _) rfl
          have p_2 : w3.cell? ⟨wo.heap.size, 2, none⟩ = some (.slice tb tn tc) := by rw [hw3]; exact box_cell (Below.refl _ _) rfl
          have raw3_b_0 := b_0
          have raw3_z_0 := z_0
          have raw3_z_1 := z_1
          have raw3_z_2 := z_2
          have raw3_p_0 := p_0
          have raw3_p_1 := p_1
          have raw3_p_2 := p_2
          rw [hw3] at raw3_b_0 raw3_z_0 raw3_z_1 raw3_z_2 raw3_p_0 raw3_p_1 raw3_p_2
          go_wp2_with fail
          rw [← hw3]
          clear hw3
          clear old3_b_0 old3_z_0 old3_z_1 old3_z_2 raw3_b_0 raw3_z_0 raw3_z_1 raw3_z_2 raw3_p_0 raw3_p_1 raw3_p_2
          have rg_b_0 := cell_regrown b_0
          have rg_z_0 := cell_regrown z_0
          have rg_z_1 := cell_regrown z_1
          have rg_z_2 := cell_regrown z_2
          have rg_p_0 := cell_regrown p_0
          have rg_p_1 := cell_regrown p_1
          have rg_p_2 := cell_regrown p_2
          refine wp_region_quiet_below (by kernel_rfl) (by kernel_rfl) ?_
          repeat (go_big_quiet_step ((first | (go_at_call 145; exact Calls.regrown_of (HC.out _ (on hb3 (below_regrown _ _ _)))))))
          refine wpQuiet_nil ?_
          intro w4 hw4
          have z4 : Below w3.heap.size w3 w4 := by obtain ⟨p9, e9⟩ := hw4; rw [e9]; exact below_regrown _ _ _
          clear hw4 rg_b_0 rg_z_0 rg_z_1 rg_z_2 rg_p_0 rg_p_1 rg_p_2
          have s5 := z4.size
          have hb5 := on hb3 z4
          replace b_0 := (z4.cell (p := ⟨w.heap.size, 0, none⟩) (by simp only []; omega)).trans b_0
          replace hlc := on hlc z4
          replace z_0 := (z4.cell (p := ⟨b1, o1, none⟩) (by simp only []; omega)).trans z_0
          replace z_1 := (z4.cell (p := ⟨b1, o1 + 1, none⟩) (by simp only []; omega)).trans z_1
          replace z_2 := (z4.cell (p := ⟨b1, o1 + 2, none⟩) (by simp only []; omega)).trans z_2
          replace p_0 := (z4.cell (p := ⟨wo.heap.size, 0, none⟩) (by simp only []; omega)).trans p_0
          replace p_1 := (z4.cell (p := ⟨wo.heap.size, 1, none⟩) (by simp only []; omega)).trans p_1
          replace p_2 := (z4.cell (p := ⟨wo.heap.size, 2, none⟩) (by simp only []; omega)).trans p_2
          go_wp2_with fail
          go_roundw
          case rel => exact ⟨1, by omega, rfl, HE.out, hlc⟩
          case measure => simp [intOf]; omega
        | false =>
          have HE := Lib.hid (validDb_no (db := x) (by rw [HA1.out]; rfl))
          obtain ⟨w6, hw6⟩ : ∃ W, W = wo.alloc (.cells #[.string s, .int .i64 i, .slice tb tn tc] 65) := ⟨_, rfl⟩
          have z6 : Below wo.heap.size wo w6 := by rw [hw6]; exact (Below.refl _ _).alloc (Nat.le_refl _) _
          have s6 : w6.heap.size = wo.heap.size + 1 := by rw [hw6]; simp
          have hb6 := on hb2 z6
          have old6_b_0 := b_0
          have old6_z_0 := z_0
          have old6_z_1 := z_1
          have old6_z_2 := z_2
          replace b_0 := (z6.cell (p := ⟨w.heap.size, 0, none⟩) (by simp only []; omega)).trans b_0
          replace hlc := on hlc z6
          replace z_0 := (z6.cell (p := ⟨b1, o1, none⟩) (by simp only []; omega)).trans z_0
          replace z_1 := (z6.cell (p := ⟨b1, o1 + 1, none⟩) (by simp only []; omega)).trans z_1
          replace z_2 := (z6.cell (p := ⟨b1, o1 + 2, none⟩) (by simp only []; omega)).trans z_2
          have p_0 : w6.cell? ⟨wo.heap.size, 0, none⟩ = some (.string s) := by rw [hw6]; exact box_cell (Below.refl _ _) rfl
          have p_1 : w6.cell? ⟨wo.heap.size, 1, none⟩ = some (.int .i64 i) := by rw [hw6]; exact box_cell (Below.refl _ _) rfl
          have p_2 : w6.cell? ⟨wo.heap.size, 2, none⟩ = some (.slice tb tn tc) := by rw [hw6]; exact box_cell (Below.refl _ _) rfl
          have raw6_b_0 := b_0
          have raw6_z_0 := z_0
          have raw6_z_1 := z_1
          have raw6_z_2 := z_2
          have raw6_p_0 := p_0
          have raw6_p_1 := p_1
          have raw6_p_2 := p_2
          rw [hw6] at raw6_b_0 raw6_z_0 raw6_z_1 raw6_z_2 raw6_p_0 raw6_p_1 raw6_p_2
          go_wp2_with fail
          rw [← hw6]
          clear hw6
          clear old6_b_0 old6_z_0 old6_z_1 old6_z_2 raw6_b_0 raw6_z_0 raw6_z_1 raw6_z_2 raw6_p_0 raw6_p_1 raw6_p_2
          have rg_b_0 := cell_regrown b_0
          have rg_z_0 := cell_regrown z_0
          have rg_z_1 := cell_regrown z_1
          have rg_z_2 := cell_regrown z_2
          have rg_p_0 := cell_regrown p_0
          have rg_p_1 := cell_regrown p_1
          have rg_p_2 := cell_regrown p_2
          refine wp_region_quiet_below (by kernel_rfl) (by kernel_rfl) ?_
          repeat (go_big_quiet_step ((first | (go_at_call 145; exact Calls.regrown_of (HC.out _ (on hb6 (below_regrown _ _ _)))))))
          refine wpQuiet_nil ?_
          intro w7 hw7
          have z7 : Below w6.heap.size w6 w7 := by obtain ⟨p9, e9⟩ := hw7; rw [e9]; exact below_regrown _ _ _
          clear hw7 rg_b_0 rg_z_0 rg_z_1 rg_z_2 rg_p_0 rg_p_1 rg_p_2
          have s8 := z7.size
          have hb8 := on hb6 z7
          replace b_0 := (z7.cell (p := ⟨w.heap.size, 0, none⟩) (by simp only []; omega)).trans b_0
          replace hlc := on hlc z7
          replace z_0 := (z7.cell (p := ⟨b1, o1, none⟩) (by simp only []; omega)).trans z_0
          replace z_1 := (z7.cell (p := ⟨b1, o1 + 1, none⟩) (by simp only []; omega)).trans z_1
          replace z_2 := (z7.cell (p := ⟨b1, o1 + 2, none⟩) (by simp only []; omega)).trans z_2
          replace p_0 := (z7.cell (p := ⟨wo.heap.size, 0, none⟩) (by simp only []; omega)).trans p_0
          replace p_1 := (z7.cell (p := ⟨wo.heap.size, 1, none⟩) (by simp only []; omega)).trans p_1
          replace p_2 := (z7.cell (p := ⟨wo.heap.size, 2, none⟩) (by simp only []; omega)).trans p_2
          go_wp2_with fail
          go_ret
          exact ⟨ret_bool HE.out.symm, hb8⟩
      obtain ⟨l, rfl⟩ : ∃ l, j = l + 1 := ⟨j - 1, by omega⟩
      obtain ⟨b9, o9, cs, t, hb9, hy, hr, hc⟩ := t1.at (show l < un by omega)
      simp at hb9
      obtain ⟨rfl, rfl⟩ := hb9
      have HP2 := Lib.hid (prevN_at hy.out)
      obtain ⟨s2, i2, rows2⟩ := t
      obtain ⟨tb2, tn2, tc2, rfl, hs2, hi2, g2⟩ := rT_open hr
      simp only at HP2
      have f_lt : b1 < w.heap.size := cell_lt (hc 0 _ rfl)
      have f_0 : wo.cell? ⟨b1, o1 + l * 3, none⟩ = some (.string s2) := (hb2.cell (p := ⟨b1, o1 + l * 3, none⟩) f_lt).trans (by have h9 := hc 0 _ rfl; rw [← Nat.add_assoc] at h9; exact h9)
      have f_1 : wo.cell? ⟨b1, o1 + l * 3 + 1, none⟩ = some (.int .i64 i2) := (hb2.cell (p := ⟨b1, o1 + l * 3 + 1, none⟩) f_lt).trans (by have h9 := hc 1 _ rfl; rw [← Nat.add_assoc] at h9; exact h9)
      have f_2 : wo.cell? ⟨b1, o1 + l * 3 + 2, none⟩ = some (.slice tb2 tn2 tc2) := (hb2.cell (p := ⟨b1, o1 + l * 3 + 2, none⟩) f_lt).trans (by have h9 := hc 2 _ rfl; rw [← Nat.add_assoc] at h9; exact h9)
      have HA1 : Hid (dbFrom none x = (v && (ltB s2 s && dbFrom (prevN x (l + 1 + 1)) (x.drop (l + 1 + 1))))) := Lib.hid (by rw [HA.out, HP.out, HP2.out])
      clear hx hy HA HP HP2 t1 hc hr g2 hj0
      obtain ⟨q, hq⟩ : ∃ q, q = ltB s2 s := ⟨_, rfl⟩
      rw [← hq] at HA1
      have hq2 : Op.bytesLess s2.toList s.toList = q := hq.symm
      clear hq
      have hi63 : IntKind.i64.wrap (l : Int) = (l : Int) := IntWalk.i64_in _ (by omega)
      cases v with
      | false =>
        have HE := Lib.hid (validDb_no (db := x) (by rw [HA1.out]; rfl))
        obtain ⟨w9, hw9⟩ : ∃ W, W = wo.alloc (.cells #[.string s, .int .i64 i, .slice tb tn tc] 65) := ⟨_, rfl⟩
        have z9 : Below wo.heap.size wo w9 := by rw [hw9]; exact (Below.refl _ _).alloc (Nat.le_refl _) _
        have s9 : w9.heap.size = wo.heap.size + 1 := by rw [hw9]; simp
        have hb9 := on hb2 z9
        have old9_b_0 := b_0
        have old9_e_0 := e_0
        have old9_e_1 := e_1
        have old9_e_2 := e_2
        have old9_f_0 := f_0
        have old9_f_1 := f_1
        have old9_f_2 := f_2
        replace b_0 := (z9.cell (p := ⟨w.heap.size, 0, none⟩) (by simp only []; omega)).trans b_0
        replace hlc := on hlc z9
        replace e_0 := (z9.cell (p := ⟨b1, o1 + (l + 1) * 3, none⟩) (by simp only []; omega)).trans e_0
        replace e_1 := (z9.cell (p := ⟨b1, o1 + (l + 1) * 3 + 1, none⟩) (by simp only []; omega)).trans e_1
        replace e_2 := (z9.cell (p := ⟨b1, o1 + (l + 1) * 3 + 2, none⟩) (by simp only []; omega)).trans e_2
        replace f_0 := (z9.cell (p := ⟨b1, o1 + l * 3, none⟩) (by simp only []; omega)).trans f_0
        replace f_1 := (z9.cell (p := ⟨b1, o1 + l * 3 + 1, none⟩) (by simp only []; omega)).trans f_1
        replace f_2 := (z9.cell (p := ⟨b1, o1 + l * 3 + 2, none⟩) (by simp only []; omega)).trans f_2
        have p_0 : w9.cell? ⟨wo.heap.size, 0, none⟩ = some (.string s) := by rw [hw9]; exact box_cell (Below.refl _ _) rfl
        have p_1 : w9.cell? ⟨wo.heap.size, 1, none⟩ = some (.int .i64 i) := by rw [hw9]; exact box_cell (Below.refl _ _) rfl
        have p_2 : w9.cell? ⟨wo.heap.size, 2, none⟩ = some (.slice tb tn tc) := by rw [hw9]; exact box_cell (Below.refl _ _) rfl
        have raw9_b_0 := b_0
        have raw9_e_0 := e_0
        have raw9_e_1 := e_1
        have raw9_e_2 := e_2
        have raw9_f_0 := f_0
        have raw9_f_1 := f_1
        have raw9_f_2 := f_2
        have raw9_p_0 := p_0
        have raw9_p_1 := p_1
        have raw9_p_2 := p_2
        rw [hw9] at raw9_b_0 raw9_e_0 raw9_e_1 raw9_e_2 raw9_f_0 raw9_f_1 raw9_f_2 raw9_p_0 raw9_p_1 raw9_p_2
        go_wp2_with fail
        rw [← hw9]
        clear hw9
        clear old9_b_0 old9_e_0 old9_e_1 old9_e_2 old9_f_0 old9_f_1 old9_f_2 raw9_b_0 raw9_e_0 raw9_e_1 raw9_e_2 raw9_f_0 raw9_f_1 raw9_f_2 raw9_p_0 raw9_p_1 raw9_p_2
        have rg_b_0 := cell_regrown b_0
        have rg_e_0 := cell_regrown e_0
        have rg_e_1 := cell_regrown e_1
        have rg_e_2 := cell_regrown e_2
        have rg_f_0 := cell_regrown f_0
        have rg_f_1 := cell_regrown f_1
        have rg_f_2 := cell_regrown f_2
        have rg_p_0 := cell_regrown p_0
        have rg_p_1 := cell_regrown p_1
        have rg_p_2 := cell_regrown p_2
        refine wp_region_quiet_below (by kernel_rfl) (by kernel_rfl) ?_
        repeat (go_big_quiet_step ((first | (go_at_call 145; exact Calls.regrown_of (HC.out _ (on hb9 (below_regrown _ _ _)))))))
        refine wpQuiet_nil ?_
        intro w10 hw10
        have z10 : Below w9.heap.size w9 w10 := by obtain ⟨p9, e9⟩ := hw10; rw [e9]; exact below_regrown _ _ _
        clear hw10 rg_b_0 rg_e_0 rg_e_1 rg_e_2 rg_f_0 rg_f_1 rg_f_2 rg_p_0 rg_p_1 rg_p_2
        have s11 := z10.size
        have hb11 := on hb9 z10
        replace b_0 := (z10.cell (p := ⟨w.heap.size, 0, none⟩) (by simp only []; omega)).trans b_0
        replace hlc := on hlc z10
        replace e_0 := (z10.cell (p := ⟨b1, o1 + (l + 1) * 3, none⟩) (by simp only []; omega)).trans e_0
        replace e_1 := (z10.cell (p := ⟨b1, o1 + (l + 1) * 3 + 1, none⟩) (by simp only []; omega)).trans e_1
        replace e_2 := (z10.cell (p := ⟨b1, o1 + (l + 1) * 3 + 2, none⟩) (by simp only []; omega)).trans e_2
        replace f_0 := (z10.cell (p := ⟨b1, o1 + l * 3, none⟩) (by simp only []; omega)).trans f_0
        replace f_1 := (z10.cell (p := ⟨b1, o1 + l * 3 + 1, none⟩) (by simp only []; omega)).trans f_1
        replace f_2 := (z10.cell (p := ⟨b1, o1 + l * 3 + 2, none⟩) (by simp only []; omega)).trans f_2
        replace p_0 := (z10.cell (p := ⟨wo.heap.size, 0, none⟩) (by simp only []; omega)).trans p_0
        replace p_1 := (z10.cell (p := ⟨wo.heap.size, 1, none⟩) (by simp only []; omega)).trans p_1
        replace p_2 := (z10.cell (p := ⟨wo.heap.size, 2, none⟩) (by simp only []; omega)).trans p_2
        clear hi63
        go_wp2_with fail
        go_ret
        exact ⟨ret_bool HE.out.symm, hb11⟩
      | true =>
        cases q with
        | false =>
          have HE := Lib.hid (validDb_no (db := x) (by rw [HA1.out]; rfl))
          obtain ⟨w12, hw12⟩ : ∃ W, W = wo.alloc (.cells #[.string s, .int .i64 i, .slice tb tn tc] 65) := ⟨_, rfl⟩
          have z12 : Below wo.heap.size wo w12 := by rw [hw12]; exact (Below.refl _ _).alloc (Nat.le_refl _) _
          have s12 : w12.heap.size = wo.heap.size + 1 := by rw [hw12]; simp
          have hb12 := on hb2 z12
          have old12_b_0 := b_0
          have old12_e_0 := e_0
          have old12_e_1 := e_1
          have old12_e_2 := e_2
          have old12_f_0 := f_0
          have old12_f_1 := f_1
          have old12_f_2 := f_2
          replace b_0 := (z12.cell (p := ⟨w.heap.size, 0, none⟩) (by simp only []; omega)).trans b_0
          replace hlc := on hlc z12
          replace e_0 := (z12.cell (p := ⟨b1, o1 + (l + 1) * 3, none⟩) (by simp only []; omega)).trans e_0
          replace e_1 := (z12.cell (p := ⟨b1, o1 + (l + 1) * 3 + 1, none⟩) (by simp only []; omega)).trans e_1
          replace e_2 := (z12.cell (p := ⟨b1, o1 + (l + 1) * 3 + 2, none⟩) (by simp only []; omega)).trans e_2
          replace f_0 := (z12.cell (p := ⟨b1, o1 + l * 3, none⟩) (by simp only []; omega)).trans f_0
          replace f_1 := (z12.cell (p := ⟨b1, o1 + l * 3 + 1, none⟩) (by simp only []; omega)).trans f_1
          replace f_2 := (z12.cell (p := ⟨b1, o1 + l * 3 + 2, none⟩) (by simp only []; omega)).trans f_2
          have p_0 : w12.cell? ⟨wo.heap.size, 0, none⟩ = some (.string s) := by rw [hw12]; exact box_cell (Below.refl _ _) rfl
          have p_1 : w12.cell? ⟨wo.heap.size, 1, none⟩ = some (.int .i64 i) := by rw [hw12]; exact box_cell (Below.refl _ _) rfl
          have p_2 : w12.cell? ⟨wo.heap.size, 2, none⟩ = some (.slice tb tn tc) := by rw [hw12]; exact box_cell (Below.refl _ _) rfl
          have raw12_b_0 := b_0
          have raw12_e_0 := e_0
          have raw12_e_1 := e_1
          have raw12_e_2 := e_2
          have raw12_f_0 := f_0
          have raw12_f_1 := f_1
          have raw12_f_2 := f_2
          have raw12_p_0 := p_0
          have raw12_p_1 := p_1
          have raw12_p_2 := p_2
          rw [hw12] at raw12_b_0 raw12_e_0 raw12_e_1 raw12_e_2 raw12_f_0 raw12_f_1 raw12_f_2 raw12_p_0 raw12_p_1 raw12_p_2
          go_wp2_with fail
          rw [← hw12]
          clear hw12
          clear old12_b_0 old12_e_0 old12_e_1 old12_e_2 old12_f_0 old12_f_1 old12_f_2 raw12_b_0 raw12_e_0 raw12_e_1 raw12_e_2 raw12_f_0 raw12_f_1 raw12_f_2 raw12_p_0 raw12_p_1 raw12_p_2
          have rg_b_0 := cell_regrown b_0
          have rg_e_0 := cell_regrown e_0
          have rg_e_1 := cell_regrown e_1
          have rg_e_2 := cell_regrown e_2
          have rg_f_0 := cell_regrown f_0
          have rg_f_1 := cell_regrown f_1
          have rg_f_2 := cell_regrown f_2
          have rg_p_0 := cell_regrown p_0
          have rg_p_1 := cell_regrown p_1
          have rg_p_2 := cell_regrown p_2
          refine wp_region_quiet_below (by kernel_rfl) (by kernel_rfl) ?_
          repeat (go_big_quiet_step ((first | (go_at_call 145; exact Calls.regrown_of (HC.out _ (on hb12 (below_regrown _ _ _)))))))
          refine wpQuiet_nil ?_
          intro w13 hw13
          have z13 : Below w12.heap.size w12 w13 := by obtain ⟨p9, e9⟩ := hw13; rw [e9]; exact below_regrown _ _ _
          clear hw13 rg_b_0 rg_e_0 rg_e_1 rg_e_2 rg_f_0 rg_f_1 rg_f_2 rg_p_0 rg_p_1 rg_p_2
          have s14 := z13.size
          have hb14 := on hb12 z13
          replace b_0 := (z13.cell (p := ⟨w.heap.size, 0, none⟩) (by simp only []; omega)).trans b_0
          replace hlc := on hlc z13
          replace e_0 := (z13.cell (p := ⟨b1, o1 + (l + 1) * 3, none⟩) (by simp only []; omega)).trans e_0
          replace e_1 := (z13.cell (p := ⟨b1, o1 + (l + 1) * 3 + 1, none⟩) (by simp only []; omega)).trans e_1
          replace e_2 := (z13.cell (p := ⟨b1, o1 + (l + 1) * 3 + 2, none⟩) (by simp only []; omega)).trans e_2
          replace f_0 := (z13.cell (p := ⟨b1, o1 + l * 3, none⟩) (by simp only []; omega)).trans f_0
          replace f_1 := (z13.cell (p := ⟨b1, o1 + l * 3 + 1, none⟩) (by simp only []; omega)).trans f_1
          replace f_2 := (z13.cell (p := ⟨b1, o1 + l * 3 + 2, none⟩) (by simp only []; omega)).trans f_2
          replace p_0 := (z13.cell (p := ⟨wo.heap.size, 0, none⟩) (by simp only []; omega)).trans p_0
          replace p_1 := (z13.cell (p := ⟨wo.heap.size, 1, none⟩) (by simp only []; omega)).trans p_1
          replace p_2 := (z13.cell (p := ⟨wo.heap.size, 2, none⟩) (by simp only []; omega)).trans p_2
          clear hi63
          go_wp2_with fail
          go_ret
          exact ⟨ret_bool HE.out.symm, hb14⟩
        | true =>
          have HE : Hid (dbFrom none x = dbFrom (prevN x (l + 1 + 1)) (x.drop (l + 1 + 1))) := Lib.hid (by rw [HA1.out]; rfl)
          obtain ⟨w15, hw15⟩ : ∃ W, W = wo.alloc (.cells #[.string s, .int .i64 i, .slice tb tn tc] 65) := ⟨_, rfl⟩
          have z15 : Below wo.heap.size wo w15 := by rw [hw15]; exact (Below.refl _ _).alloc (Nat.le_refl _) _
          have s15 : w15.heap.size = wo.heap.size + 1 := by rw [hw15]; simp
          have hb15 := on hb2 z15
          have old15_b_0 := b_0
          have old15_e_0 := e_0
          have old15_e_1 := e_1
          have old15_e_2 := e_2
          have old15_f_0 := f_0
          have old15_f_1 := f_1
          have old15_f_2 := f_2
          replace b_0 := (z15.cell (p := ⟨w.heap.size, 0, none⟩) (by simp only []; omega)).trans b_0
          replace hlc := on hlc z15
          replace e_0 := (z15.cell (p := ⟨b1, o1 + (l + 1) * 3, none⟩) (by simp only []; omega)).trans e_0
          replace e_1 := (z15.cell (p := ⟨b1, o1 + (l + 1) * 3 + 1, none⟩) (by simp only []; omega)).trans e_1
          replace e_2 := (z15.cell (p := ⟨b1, o1 + (l + 1) * 3 + 2, none⟩) (by simp only []; omega)).trans e_2
          replace f_0 := (z15.cell (p := ⟨b1, o1 + l * 3, none⟩) (by simp only []; omega)).trans f_0
          replace f_1 := (z15.cell (p := ⟨b1, o1 + l * 3 + 1, none⟩) (by simp only []; omega)).trans f_1
          replace f_2 := (z15.cell (p := ⟨b1, o1 + l * 3 + 2, none⟩) (by simp only []; omega)).trans f_2
          have p_0 : w15.cell? ⟨wo.heap.size, 0, none⟩ = some (.string s) := by rw [hw15]; exact box_cell (Below.refl _ _) rfl
          have p_1 : w15.cell? ⟨wo.heap.size, 1, none⟩ = some (.int .i64 i) := by rw [hw15]; exact box_cell (Below.refl _ _) rfl
          have p_2 : w15.cell? ⟨wo.heap.size, 2, none⟩ = some (.slice tb tn tc) := by rw [hw15]; exact box_cell (Below.refl _ _) rfl
          have raw15_b_0 := b_0
          have raw15_e_0 := e_0
          have raw15_e_1 := e_1
          have raw15_e_2 := e_2
          have raw15_f_0 := f_0
          have raw15_f_1 := f_1
          have raw15_f_2 := f_2
          have raw15_p_0 := p_0
          have raw15_p_1 := p_1
          have raw15_p_2 := p_2
          rw [hw15] at raw15_b_0 raw15_e_0 raw15_e_1 raw15_e_2 raw15_f_0 raw15_f_1 raw15_f_2 raw15_p_0 raw15_p_1 raw15_p_2
          go_wp2_with fail
          rw [← hw15]
          clear hw15
          clear old15_b_0 old15_e_0 old15_e_1 old15_e_2 old15_f_0 old15_f_1 old15_f_2 raw15_b_0 raw15_e_0 raw15_e_1 raw15_e_2 raw15_f_0 raw15_f_1 raw15_f_2 raw15_p_0 raw15_p_1 raw15_p_2
          have rg_b_0 := cell_regrown b_0
          have rg_e_0 := cell_regrown e_0
          have rg_e_1 := cell_regrown e_1
          have rg_e_2 := cell_regrown e_2
          have rg_f_0 := cell_regrown f_0
          have rg_f_1 := cell_regrown f_1
          have rg_f_2 := cell_regrown f_2
          have rg_p_0 := cell_regrown p_0
          have rg_p_1 := cell_regrown p_1
          have rg_p_2 := cell_regrown p_2
          refine wp_region_quiet_below (by kernel_rfl) (by kernel_rfl) ?_
          repeat (go_big_quiet_step ((first | (go_at_call 145; exact Calls.regrown_of (HC.out _ (on hb15 (below_regrown _ _ _)))))))
          refine wpQuiet_nil ?_
          intro w16 hw16
          have z16 : Below w15.heap.size w15 w16 := by obtain ⟨p9, e9⟩ := hw16; rw [e9]; exact below_regrown _ _ _
          clear hw16 rg_b_0 rg_e_0 rg_e_1 rg_e_2 rg_f_0 rg_f_1 rg_f_2 rg_p_0 rg_p_1 rg_p_2
          have s17 := z16.size
          have hb17 := on hb15 z16
          replace b_0 := (z16.cell (p := ⟨w.heap.size, 0, none⟩) (by simp only []; omega)).trans b_0
          replace hlc := on hlc z16
          replace e_0 := (z16.cell (p := ⟨b1, o1 + (l + 1) * 3, none⟩) (by simp only []; omega)).trans e_0
          replace e_1 := (z16.cell (p := ⟨b1, o1 + (l + 1) * 3 + 1, none⟩) (by simp only []; omega)).trans e_1
          replace e_2 := (z16.cell (p := ⟨b1, o1 + (l + 1) * 3 + 2, none⟩) (by simp only []; omega)).trans e_2
          replace f_0 := (z16.cell (p := ⟨b1, o1 + l * 3, none⟩) (by simp only []; omega)).trans f_0
          replace f_1 := (z16.cell (p := ⟨b1, o1 + l * 3 + 1, none⟩) (by simp only []; omega)).trans f_1
          replace f_2 := (z16.cell (p := ⟨b1, o1 + l * 3 + 2, none⟩) (by simp only []; omega)).trans f_2
          replace p_0 := (z16.cell (p := ⟨wo.heap.size, 0, none⟩) (by simp only []; omega)).trans p_0
          replace p_1 := (z16.cell (p := ⟨wo.heap.size, 1, none⟩) (by simp only []; omega)).trans p_1
          replace p_2 := (z16.cell (p := ⟨wo.heap.size, 2, none⟩) (by simp only []; omega)).trans p_2
          clear hi63
          go_wp2_with fail
          go_roundw
          case rel => exact ⟨l + 1 + 1, by omega, by go_num, HE.out, hlc⟩
          case measure => simp [intOf]; omega
    · have HE := Lib.hid (validDb_len HL.out (hE.out.trans (dbFrom_end (by have := HL.out; omega))))
      clear t1 hl hE HV
      go_wp2_with fail
      go_ret
      exact ⟨ret_bool (by rw [HE.out]), hb2⟩

set_option maxHeartbeats 4000000 in
theorem validDb_spec (cs : List Value) (x : DDb) (w : World) (h : rDb.rep w cs x) :
    Calls Tryz.prog 73 #[.agg cs.toArray] w fun e w' => e = .returned (.bool (validDb x)) ∧ Below w.heap.size w w' := by
  obtain ⟨ub, un, uc, rfl, g1⟩ := rDb_open h
  clear h
  have t1 := rS_sl g1
  have hl := t1.len
  have hn := t1.small
  have HV : Hid (dbFrom none x = dbFrom (prevN x 0) (x.drop 0)) := rfl
  have HL := Lib.hid hl
  have hb0 : Below w.heap.size w w := Below.refl _ _
  go_enter Tryz.func73, Tryz.ntmps73
  obtain ⟨w1, hw1⟩ : ∃ W, W = w.alloc (.cells #[.slice ub un uc] 34) := ⟨_, rfl⟩
  have z1 : Below w.heap.size w w1 := by rw [hw1]; exact (Below.refl _ _).alloc (Nat.le_refl _) _
  have s1 : w1.heap.size = w.heap.size + 1 := by rw [hw1]; simp
  have hb1 := on hb0 z1
  have b_0 : w1.cell? ⟨w.heap.size, 0, none⟩ = some (.slice ub un uc) := by rw [hw1]; exact box_cell (Below.refl _ _) rfl
  have raw1_b_0 := b_0
  rw [hw1] at raw1_b_0
  go_wp2_with fail
  rw [← hw1]
  clear hw1
  clear raw1_b_0
  go_loopw [3] (fun k wr => ∃ j : Nat, j ≤ un ∧ k = .int .i64 j ∧ Hid (dbFrom none x = dbFrom (prevN x j) (x.drop j)) ∧ Below w1.heap.size w1 wr) (fun k _ => un - (intOf k).toNat)
  case atStart => exact ⟨0, Nat.zero_le _, rfl, HV.out, Below.refl _ _⟩
  case round =>
    obtain ⟨j, hj, rfl, hE, hdr⟩ := hrel
    obtain ⟨wo, rfl⟩ : ∃ W, W = wr := ⟨_, rfl⟩
    have hlc := hdr
    have s2 := hdr.size
    have hb2 := on hb1 hdr
    replace b_0 := (hdr.cell (p := ⟨w.heap.size, 0, none⟩) (by simp only []; omega)).trans b_0
    by_cases hlt : j < un
    · obtain ⟨b1, o1, cs, t, rfl, hx, hr, hc⟩ := t1.at hlt
      have HA := Lib.hid (hE.out.trans (dbFrom_at hx.out))
      have HP := Lib.hid (prevN_at hx.out)
      obtain ⟨s, i, rows⟩ := t
      obtain ⟨tb, tn, tc, rfl, hs, hi, g2⟩ := rT_open hr
      simp only at hs hi g2 HA HP
      have e_lt : b1 < w.heap.size := cell_lt (hc 0 _ rfl)
      have e_0 : wo.cell? ⟨b1, o1 + j * 3, none⟩ = some (.string s) := (hb2.cell (p := ⟨b1, o1 + j * 3, none⟩) e_lt).trans (by have h9 := hc 0 _ rfl; rw [← Nat.add_assoc] at h9; exact h9)
      have e_1 : wo.cell? ⟨b1, o1 + j * 3 + 1, none⟩ = some (.int .i64 i) := (hb2.cell (p := ⟨b1, o1 + j * 3 + 1, none⟩) e_lt).trans (by have h9 := hc 1 _ rfl; rw [← Nat.add_assoc] at h9; exact h9)
      have e_2 : wo.cell? ⟨b1, o1 + j * 3 + 2, none⟩ = some (.slice tb tn tc) := (hb2.cell (p := ⟨b1, o1 + j * 3 + 2, none⟩) e_lt).trans (by have h9 := hc 2 _ rfl; rw [← Nat.add_assoc] at h9; exact h9)
      have hcall := fun W (hW : Below w.heap.size w W) => validT_spec [.string s, .int .i64 i, .slice tb tn tc] (s, i, rows) W (rT.mono hr hW)
      obtain ⟨v, hv⟩ : ∃ v, v = validT (s, i, rows) := ⟨_, rfl⟩
      rw [← hv] at hcall HA
      have HC := Lib.hid hcall
      clear hcall hv hE HV hc hr g2 hl
      by_cases hj0 : j = 0
      · subst hj0
        have z_0 : wo.cell? ⟨b1, o1, none⟩ = some (.string s) := by have h9 := e_0; rw [Nat.zero_mul, Nat.add_zero] at h9; exact h9
        have z_1 : wo.cell? ⟨b1, o1 + 1, none⟩ = some (.int .i64 i) := by have h9 := e_1; rw [Nat.zero_mul, Nat.add_zero] at h9; exact h9
        have z_2 : wo.cell? ⟨b1, o1 + 2, none⟩ = some (.slice tb tn tc) := by have h9 := e_2; rw [Nat.zero_mul, Nat.add_zero] at h9; exact h9
        clear e_0 e_1 e_2
        have HA1 : Hid (dbFrom none x = (v && dbFrom (prevN x (0 + 1)) (x.drop (0 + 1)))) := Lib.hid (by rw [HA.out, HP.out]; simp [prevN])
        clear hx HA HP t1
        cases v with
        | true =>
          have HE : Hid (dbFrom none x = dbFrom (prevN x (0 + 1)) (x.drop (0 + 1))) := Lib.hid (by rw [HA1.out]; rfl)
          go_wp2_with fail
          have rg_b_0 := cell_regrown b_0
          have rg_z_0 := cell_regrown z_0
          have rg_z_1 := cell_regrown z_1
          have rg_z_2 := cell_regrown z_2
          refine wp_region_quiet_below (by kernel_rfl) (by kernel_rfl) ?_
          repeat (go_big_quiet_step ((first | (go_at_call 75; exact Calls.regrown_of (HC.out _ (on hb2 (below_regrown _ _ _)))))))
          refine wpQuiet_nil ?_
          intro w3 hw3
          have z3 : Below wo.heap.size wo w3 := by obtain ⟨p9, e9⟩ := hw3; rw [e9]; exact below_regrown _ _ _
          clear hw3 rg_b_0 rg_z_0 rg_z_1 rg_z_2
          have s4 := z3.size
          have hb4 := on hb2 z3
          replace b_0 := (z3.cell (p := ⟨w.heap.size, 0, none⟩) (by simp only []; omega)).trans b_0
          replace hlc := on hlc z3
          replace z_0 := (z3.cell (p := ⟨b1, o1, none⟩) (by simp only []; omega)).trans z_0
          replace z_1 := (z3.cell (p := ⟨b1, o1 + 1, none⟩) (by simp only []; omega)).trans z_1
          replace z_2 := (z3.cell (p := ⟨b1, o1 + 2, none⟩) (by simp only []; omega)).trans z_2
          go_wp2_with fail
          go_roundw
          case rel => exact ⟨1, by omega, rfl, HE.out, hlc⟩
          case measure => simp [intOf]; omega
        | false =>
          have HE := Lib.hid (validDb_no (db := x) (by rw [HA1.out]; rfl))
          go_wp2_with fail
          have rg_b_0 := cell_regrown b_0
          have rg_z_0 := cell_regrown z_0
          have rg_z_1 := cell_regrown z_1
          have rg_z_2 := cell_regrown z_2
          refine wp_region_quiet_below (by kernel_rfl) (by kernel_rfl) ?_
          repeat (go_big_quiet_step ((first | (go_at_call 75; exact Calls.regrown_of (HC.out _ (on hb2 (below_regrown _ _ _)))))))
          refine wpQuiet_nil ?_
          intro w5 hw5
          have z5 : Below wo.heap.size wo w5 := by obtain ⟨p9, e9⟩ := hw5; rw [e9]; exact below_regrown _ _ _
          clear hw5 rg_b_0 rg_z_0 rg_z_1 rg_z_2
          have s6 := z5.size
          have hb6 := on hb2 z5
          replace b_0 := (z5.cell (p := ⟨w.heap.size, 0, none⟩) (by simp only []; omega)).trans b_0
          replace hlc := on hlc z5
          replace z_0 := (z5.cell (p := ⟨b1, o1, none⟩) (by simp only []; omega)).trans z_0
          replace z_1 := (z5.cell (p := ⟨b1, o1 + 1, none⟩) (by simp only []; omega)).trans z_1
          replace z_2 := (z5.cell (p := ⟨b1, o1 + 2, none⟩) (by simp only []; omega)).trans z_2
          go_wp2_with fail
          go_ret
          exact ⟨ret_bool HE.out.symm, hb6⟩
      obtain ⟨l, rfl⟩ : ∃ l, j = l + 1 := ⟨j - 1, by omega⟩
      obtain ⟨b9, o9, cs, t, hb9, hy, hr, hc⟩ := t1.at (show l < un by omega)
      simp at hb9
      obtain ⟨rfl, rfl⟩ := hb9
      have HP2 := Lib.hid (prevN_at hy.out)
      obtain ⟨s2, i2, rows2⟩ := t
      obtain ⟨tb2, tn2, tc2, rfl, hs2, hi2, g2⟩ := rT_open hr
      simp only at HP2
      have f_lt : b1 < w.heap.size := cell_lt (hc 0 _ rfl)
      have f_0 : wo.cell? ⟨b1, o1 + l * 3, none⟩ = some (.string s2) := (hb2.cell (p := ⟨b1, o1 + l * 3, none⟩) f_lt).trans (by have h9 := hc 0 _ rfl; rw [← Nat.add_assoc] at h9; exact h9)
      have f_1 : wo.cell? ⟨b1, o1 + l * 3 + 1, none⟩ = some (.int .i64 i2) := (hb2.cell (p := ⟨b1, o1 + l * 3 + 1, none⟩) f_lt).trans (by have h9 := hc 1 _ rfl; rw [← Nat.add_assoc] at h9; exact h9)
      have f_2 : wo.cell? ⟨b1, o1 + l * 3 + 2, none⟩ = some (.slice tb2 tn2 tc2) := (hb2.cell (p := ⟨b1, o1 + l * 3 + 2, none⟩) f_lt).trans (by have h9 := hc 2 _ rfl; rw [← Nat.add_assoc] at h9; exact h9)
      have HA1 : Hid (dbFrom none x = (v && (ltB s2 s && dbFrom (prevN x (l + 1 + 1)) (x.drop (l + 1 + 1))))) := Lib.hid (by rw [HA.out, HP.out, HP2.out])
      clear hx hy HA HP HP2 t1 hc hr g2 hj0
      obtain ⟨q, hq⟩ : ∃ q, q = ltB s2 s := ⟨_, rfl⟩
      rw [← hq] at HA1
      have hq2 : Op.bytesLess s2.toList s.toList = q := hq.symm
      clear hq
      have hi63 : IntKind.i64.wrap (l : Int) = (l : Int) := IntWalk.i64_in _ (by omega)
      cases v with
      | false =>
        have HE := Lib.hid (validDb_no (db := x) (by rw [HA1.out]; rfl))
        go_wp2_with fail
        have rg_b_0 := cell_regrown b_0
        have rg_e_0 := cell_regrown e_0
        have rg_e_1 := cell_regrown e_1
        have rg_e_2 := cell_regrown e_2
        have rg_f_0 := cell_regrown f_0
        have rg_f_1 := cell_regrown f_1
        have rg_f_2 := cell_regrown f_2
        refine wp_region_quiet_below (by kernel_rfl) (by kernel_rfl) ?_
        repeat (go_big_quiet_step ((first | (go_at_call 75; exact Calls.regrown_of (HC.out _ (on hb2 (below_regrown _ _ _)))))))
        refine wpQuiet_nil ?_
        intro w7 hw7
        have z7 : Below wo.heap.size wo w7 := by obtain ⟨p9, e9⟩ := hw7; rw [e9]; exact below_regrown _ _ _
        clear hw7 rg_b_0 rg_e_0 rg_e_1 rg_e_2 rg_f_0 rg_f_1 rg_f_2
        have s8 := z7.size
        have hb8 := on hb2 z7
        replace b_0 := (z7.cell (p := ⟨w.heap.size, 0, none⟩) (by simp only []; omega)).trans b_0
        replace hlc := on hlc z7
        replace e_0 := (z7.cell (p := ⟨b1, o1 + (l + 1) * 3, none⟩) (by simp only []; omega)).trans e_0
        replace e_1 := (z7.cell (p := ⟨b1, o1 + (l + 1) * 3 + 1, none⟩) (by simp only []; omega)).trans e_1
        replace e_2 := (z7.cell (p := ⟨b1, o1 + (l + 1) * 3 + 2, none⟩) (by simp only []; omega)).trans e_2
        replace f_0 := (z7.cell (p := ⟨b1, o1 + l * 3, none⟩) (by simp only []; omega)).trans f_0
        replace f_1 := (z7.cell (p := ⟨b1, o1 + l * 3 + 1, none⟩) (by simp only []; omega)).trans f_1
        replace f_2 := (z7.cell (p := ⟨b1, o1 + l * 3 + 2, none⟩) (by simp only []; omega)).trans f_2
        clear hi63
        go_wp2_with fail
        go_ret
        exact ⟨ret_bool HE.out.symm, hb8⟩
      | true =>
        cases q with
        | false =>
          have HE := Lib.hid (validDb_no (db := x) (by rw [HA1.out]; rfl))
          go_wp2_with fail
          have rg_b_0 := cell_regrown b_0
          have rg_e_0 := cell_regrown e_0
          have rg_e_1 := cell_regrown e_1
          have rg_e_2 := cell_regrown e_2
          have rg_f_0 := cell_regrown f_0
          have rg_f_1 := cell_regrown f_1
          have rg_f_2 := cell_regrown f_2
          refine wp_region_quiet_below (by kernel_rfl) (by kernel_rfl) ?_
          repeat (go_big_quiet_step ((first | (go_at_call 75; exact Calls.regrown_of (HC.out _ (on hb2 (below_regrown _ _ _)))))))
          refine wpQuiet_nil ?_
          intro w9 hw9
          have z9 : Below wo.heap.size wo w9 := by obtain ⟨p9, e9⟩ := hw9; rw [e9]; exact below_regrown _ _ _
          clear hw9 rg_b_0 rg_e_0 rg_e_1 rg_e_2 rg_f_0 rg_f_1 rg_f_2
          have s10 := z9.size
          have hb10 := on hb2 z9
          replace b_0 := (z9.cell (p := ⟨w.heap.size, 0, none⟩) (by simp only []; omega)).trans b_0
          replace hlc := on hlc z9
          replace e_0 := (z9.cell (p := ⟨b1, o1 + (l + 1) * 3, none⟩) (by simp only []; omega)).trans e_0
          replace e_1 := (z9.cell (p := ⟨b1, o1 + (l + 1) * 3 + 1, none⟩) (by simp only []; omega)).trans e_1
          replace e_2 := (z9.cell (p := ⟨b1, o1 + (l + 1) * 3 + 2, none⟩) (by simp only []; omega)).trans e_2
          replace f_0 := (z9.cell (p := ⟨b1, o1 + l * 3, none⟩) (by simp only []; omega)).trans f_0
          replace f_1 := (z9.cell (p := ⟨b1, o1 + l * 3 + 1, none⟩) (by simp only []; omega)).trans f_1
          replace f_2 := (z9.cell (p := ⟨b1, o1 + l * 3 + 2, none⟩) (by simp only []; omega)).trans f_2
          clear hi63
          go_wp2_with fail
          go_ret
          exact ⟨ret_bool HE.out.symm, hb10⟩
        | true =>
          have HE : Hid (dbFrom none x = dbFrom (prevN x (l + 1 + 1)) (x.drop (l + 1 + 1))) := Lib.hid (by rw [HA1.out]; rfl)
          go_wp2_with fail
          have rg_b_0 := cell_regrown b_0
          have rg_e_0 := cell_regrown e_0
          have rg_e_1 := cell_regrown e_1
          have rg_e_2 := cell_regrown e_2
          have rg_f_0 := cell_regrown f_0
          have rg_f_1 := cell_regrown f_1
          have rg_f_2 := cell_regrown f_2
          refine wp_region_quiet_below (by kernel_rfl) (by kernel_rfl) ?_
          repeat (go_big_quiet_step ((first | (go_at_call 75; exact Calls.regrown_of (HC.out _ (on hb2 (below_regrown _ _ _)))))))
          refine wpQuiet_nil ?_
          intro w11 hw11
          have z11 : Below wo.heap.size wo w11 := by obtain ⟨p9, e9⟩ := hw11; rw [e9]; exact below_regrown _ _ _
          clear hw11 rg_b_0 rg_e_0 rg_e_1 rg_e_2 rg_f_0 rg_f_1 rg_f_2
          have s12 := z11.size
          have hb12 := on hb2 z11
          replace b_0 := (z11.cell (p := ⟨w.heap.size, 0, none⟩) (by simp only []; omega)).trans b_0
          replace hlc := on hlc z11
          replace e_0 := (z11.cell (p := ⟨b1, o1 + (l + 1) * 3, none⟩) (by simp only []; omega)).trans e_0
          replace e_1 := (z11.cell (p := ⟨b1, o1 + (l + 1) * 3 + 1, none⟩) (by simp only []; omega)).trans e_1
          replace e_2 := (z11.cell (p := ⟨b1, o1 + (l + 1) * 3 + 2, none⟩) (by simp only []; omega)).trans e_2
          replace f_0 := (z11.cell (p := ⟨b1, o1 + l * 3, none⟩) (by simp only []; omega)).trans f_0
          replace f_1 := (z11.cell (p := ⟨b1, o1 + l * 3 + 1, none⟩) (by simp only []; omega)).trans f_1
          replace f_2 := (z11.cell (p := ⟨b1, o1 + l * 3 + 2, none⟩) (by simp only []; omega)).trans f_2
          clear hi63
          go_wp2_with fail
          go_roundw
          case rel => exact ⟨l + 1 + 1, by omega, by go_num, HE.out, hlc⟩
          case measure => simp [intOf]; omega
    · have HE := Lib.hid (validDb_len HL.out (hE.out.trans (dbFrom_end (by have := HL.out; omega))))
      clear t1 hl hE HV
      go_wp2_with fail
      go_ret
      exact ⟨ret_bool (by rw [HE.out]), hb2⟩

end Go.Proofs.YtkipgbgkhffkkaaGreat

/- Contracts: whether a query is valid: the program's. -/
namespace Go.Proofs.YtkipgbgkhffkkaaGreat
open Go.RowKit
set_option linter.unusedVariables false
set_option linter.unusedSimpArgs false
set_option synthInstance.maxSize 2000
set_option synthInstance.maxHeartbeats 400000

theorem infoBool : (Tryz.prog.info? 4).map (fun i => (i.zero, i.size, i.bytes)) = some (some (.bool false), 1, 1) := by kernel_rfl

set_option maxHeartbeats 2000000 in
theorem validQ_impl (cs : List Value) (x : DQ) (w : World) (h : rQ.rep w cs x) :
    Calls Tryz.prog 84 #[.agg cs.toArray] w fun e w' => e = .returned (.bool (validQ x)) ∧ Below w.heap.size w w' := by
  obtain ⟨ub, un, uc, rfl, hi, g1⟩ := rQ_open h
  clear h
  obtain ⟨i, xs⟩ := x
  simp only at hi g1
  obtain ⟨hi1, hi2⟩ := hi
  have t0 := rS_sl g1
  have hl := t0.len
  have hn := t0.small
  clear t0
  have hb0 : Below w.heap.size w w := Below.refl _ _
  by_cases h1 : betw i 1 4 = true
  case neg =>
    replace h1 : betw i 1 4 = false := by simpa using h1
    have HE := Lib.hid (validQ_no1 (q := (i, xs)) h1)
    go_enter Tryz.func84, Tryz.ntmps84
    obtain ⟨w1, hw1⟩ : ∃ W, W = w.alloc (.cells #[.int .i64 i, .slice ub un uc] 38) := ⟨_, rfl⟩
    have z1 : Below w.heap.size w w1 := by rw [hw1]; exact (Below.refl _ _).alloc (Nat.le_refl _) _
    have s1 : w1.heap.size = w.heap.size + 1 := by rw [hw1]; simp
    have hb1 := on hb0 z1
    have b_0 : w1.cell? ⟨w.heap.size, 0, none⟩ = some (.int .i64 i) := by rw [hw1]; exact box_cell (Below.refl _ _) rfl
    have b_1 : w1.cell? ⟨w.heap.size, 1, none⟩ = some (.slice ub un uc) := by rw [hw1]; exact box_cell (Below.refl _ _) rfl
    have raw1_b_0 := b_0
    have raw1_b_1 := b_1
    rw [hw1] at raw1_b_0 raw1_b_1
    go_wp2_with fail
    rw [← hw1]
    clear hw1
    clear raw1_b_0 raw1_b_1
    refine (within_any _ _ _ _).mono ?_
    rintro e w' ⟨rfl, rfl⟩
    clear hl
    go_wp2_with fail
    go_ret
    exact ⟨ret_bool HE.out.symm, hb1⟩
  by_cases h2 : betw un 1 4 = true
  case neg =>
    replace h2 : betw un 1 4 = false := by simpa using h2
    have HE := Lib.hid (validQ_no2 (q := (i, xs)) (by simp only []; rw [hl]; exact h2))
    go_enter Tryz.func84, Tryz.ntmps84
    obtain ⟨w2, hw2⟩ : ∃ W, W = w.alloc (.cells #[.int .i64 i, .slice ub un uc] 38) := ⟨_, rfl⟩
    have z2 : Below w.heap.size w w2 := by rw [hw2]; exact (Below.refl _ _).alloc (Nat.le_refl _) _
    have s2 : w2.heap.size = w.heap.size + 1 := by rw [hw2]; simp
    have hb2 := on hb0 z2
    have b_0 : w2.cell? ⟨w.heap.size, 0, none⟩ = some (.int .i64 i) := by rw [hw2]; exact box_cell (Below.refl _ _) rfl
    have b_1 : w2.cell? ⟨w.heap.size, 1, none⟩ = some (.slice ub un uc) := by rw [hw2]; exact box_cell (Below.refl _ _) rfl
    have raw2_b_0 := b_0
    have raw2_b_1 := b_1
    rw [hw2] at raw2_b_0 raw2_b_1
    go_wp2_with fail
    rw [← hw2]
    clear hw2
    clear raw2_b_0 raw2_b_1
    refine (within_any _ _ _ _).mono ?_
    rintro e w' ⟨rfl, rfl⟩
    go_wp2_with fail
    refine (within_any _ _ _ _).mono ?_
    rintro e w' ⟨rfl, rfl⟩
    clear hl
    go_wp2_with fail
    go_ret
    exact ⟨ret_bool HE.out.symm, hb2⟩
  have h3 := h1
  simp only [betw, Bool.and_eq_true, decide_eq_true_eq] at h3
  obtain ⟨n, rfl⟩ := Int.eq_ofNat_of_zero_le (show 0 ≤ i by omega)
  have hn1 : 1 ≤ n ∧ n ≤ 4 := by omega
  obtain ⟨hn1, hn4⟩ := hn1
  clear h3 hi1 hi2
  have HV := Lib.hid (validQ_go (xs := xs) h1 (by rw [hl]; exact h2))
  have H2 := Lib.hid h2
  go_enter Tryz.func84, Tryz.ntmps84
  obtain ⟨w3, hw3⟩ : ∃ W, W = w.alloc (.cells #[.int .i64 n, .slice ub un uc] 38) := ⟨_, rfl⟩
  have z3 : Below w.heap.size w w3 := by rw [hw3]; exact (Below.refl _ _).alloc (Nat.le_refl _) _
  have s3 : w3.heap.size = w.heap.size + 1 := by rw [hw3]; simp
  have hb3 := on hb0 z3
  have b_0 : w3.cell? ⟨w.heap.size, 0, none⟩ = some (.int .i64 n) := by rw [hw3]; exact box_cell (Below.refl _ _) rfl
  have b_1 : w3.cell? ⟨w.heap.size, 1, none⟩ = some (.slice ub un uc) := by rw [hw3]; exact box_cell (Below.refl _ _) rfl
  have raw3_b_0 := b_0
  have raw3_b_1 := b_1
  rw [hw3] at raw3_b_0 raw3_b_1
  go_wp2_with fail
  rw [← hw3]
  clear hw3
  clear raw3_b_0 raw3_b_1
  refine (within_any _ _ _ _).mono ?_
  rintro e w' ⟨rfl, rfl⟩
  go_wp2_with fail
  refine (within_any _ _ _ _).mono ?_
  rintro e w' ⟨rfl, rfl⟩
  go_wp2_with (at_make; refine wpList_mkS Tryz.underlying129 infoBool rfl (by decide) (by decide) O.bool ([] : List Bool) _ _ n (by omega) rfl rfl rfl rfl ?_; intro w2 hp hz hz2; have s4 := hz.size; have hb4 := on hb3 hz; replace b_0 := (hz.cell (p := ⟨w.heap.size, 0, none⟩) (by simp only []; omega)).trans b_0; replace b_1 := (hz.cell (p := ⟨w.heap.size, 1, none⟩) (by simp only []; omega)).trans b_1)
  have B0 : Bools w2 (w.heap.size + 1) n 0 := by have h9 := Bools.of_part hp; rwa [show w3.heap.size = (w.heap.size + 1) by omega] at h9
  clear hp h1 h2
  go_loopw [25] (fun k wr => ∃ j m : Nat, j ≤ un ∧ m < 2 ^ n ∧ k = .int .i64 j ∧ Hid (validQ ((n : Int), xs) = validFrom n m (xs.drop j)) ∧ Bools wr (w.heap.size + 1) n m ∧ Turn (w.heap.size + 1) (w.heap.size + 2) w2 wr) (fun k _ => un - (intOf k).toNat)
  case atStart => exact ⟨0, 0, Nat.zero_le _, Nat.two_pow_pos _, rfl, HV.out, B0, turn_refl _ _ _⟩
  case round =>
    obtain ⟨j, m, hj, hm, rfl, hE, hB, hdr⟩ := hrel
    obtain ⟨wo, rfl⟩ : ∃ W, W = wr := ⟨_, rfl⟩
    have hlc := hdr
    clear B0
    have s5 := hdr.size
    have hb5 := hb4.trans ((hdr.below (by omega)).mono (by omega))
    replace b_0 := (hdr.cell (p := ⟨w.heap.size, 0, none⟩) (by simp only []; omega) (by simp only []; omega)).trans b_0
    replace b_1 := (hdr.cell (p := ⟨w.heap.size, 1, none⟩) (by simp only []; omega) (by simp only []; omega)).trans b_1
    have t0 := rS_sl g1
    have hm16 := pow_le16 hn4
    by_cases hlt : j < un
    · obtain ⟨b1, o1, cs, x, rfl, hx, hr, hc⟩ := t0.at hlt
      obtain ⟨s, vs⟩ := x
      obtain ⟨vb, vn, vc, rfl, hs, g2⟩ := rA_open hr
      simp only at hs g2
      have i0 := rI_ints g2
      have hvl := i0.len
      have hvs := i0.small
      obtain ⟨hvc, hvc2⟩ := rS_cap g2
      have e_lt : b1 < w.heap.size := cell_lt (hc 0 _ rfl)
      have e_0 : wo.cell? ⟨b1, o1 + j * 2, none⟩ = some (.string s) := (hb5.cell (p := ⟨b1, o1 + j * 2, none⟩) e_lt).trans (by have h9 := hc 0 _ rfl; rw [← Nat.add_assoc] at h9; exact h9)
      have e_1 : wo.cell? ⟨b1, o1 + j * 2 + 1, none⟩ = some (.slice vb vn vc) := (hb5.cell (p := ⟨b1, o1 + j * 2 + 1, none⟩) e_lt).trans (by have h9 := hc 1 _ rfl; rw [← Nat.add_assoc] at h9; exact h9)
      have HA := Lib.hid (hE.out.trans (validFrom_at hx.out))
      clear hc t0 hr hl hx hE i0 HV
      have hg := hB.lt
      obtain ⟨w6, hw6⟩ : ∃ W, W = wo.alloc (.cells #[.string s, .slice vb vn vc] 69) := ⟨_, rfl⟩
      have z6 : Below wo.heap.size wo w6 := by rw [hw6]; exact (Below.refl _ _).alloc (Nat.le_refl _) _
      have s6 : w6.heap.size = wo.heap.size + 1 := by rw [hw6]; simp
      have hb6 := on hb5 z6
      have old6_b_0 := b_0
      have old6_b_1 := b_1
      have old6_e_0 := e_0
      have old6_e_1 := e_1
      replace b_0 := (z6.cell (p := ⟨w.heap.size, 0, none⟩) (by simp only []; omega)).trans b_0
      replace b_1 := (z6.cell (p := ⟨w.heap.size, 1, none⟩) (by simp only []; omega)).trans b_1
      replace hlc := hlc.trans (turn_below z6 (Nat.le_refl _))
      replace e_0 := (z6.cell (p := ⟨b1, o1 + j * 2, none⟩) (by simp only []; omega)).trans e_0
      replace e_1 := (z6.cell (p := ⟨b1, o1 + j * 2 + 1, none⟩) (by simp only []; omega)).trans e_1
      replace hB := hB.below z6 (by omega)
      have p_0 : w6.cell? ⟨wo.heap.size, 0, none⟩ = some (.string s) := by rw [hw6]; exact box_cell (Below.refl _ _) rfl
      have p_1 : w6.cell? ⟨wo.heap.size, 1, none⟩ = some (.slice vb vn vc) := by rw [hw6]; exact box_cell (Below.refl _ _) rfl
      have raw6_b_0 := b_0
      have raw6_b_1 := b_1
      have raw6_e_0 := e_0
      have raw6_e_1 := e_1
      have raw6_p_0 := p_0
      have raw6_p_1 := p_1
      rw [hw6] at raw6_b_0 raw6_b_1 raw6_e_0 raw6_e_1 raw6_p_0 raw6_p_1
      by_cases h1 : nameB s = true
      case neg =>
        replace h1 : nameB s = false := by simpa using h1
        have HE := Lib.hid (show validQ ((n : Int), xs) = false by rw [HA.out]; simp [h1])
        go_wp2_with fail
        rw [← hw6]
        clear hw6
        clear old6_b_0 old6_b_1 old6_e_0 old6_e_1 raw6_b_0 raw6_b_1 raw6_e_0 raw6_e_1 raw6_p_0 raw6_p_1
        refine (nameOk_any _ _ hs).mono ?_
        rintro e w' ⟨rfl, rfl⟩
        go_wp2_with fail
        go_ret
        exact ⟨ret_bool HE.out.symm, hb6⟩
      by_cases h2 : betw vn 1 3 = true
      case neg =>
        replace h2 : betw vn 1 3 = false := by simpa using h2
        have HE := Lib.hid (show validQ ((n : Int), xs) = false by rw [HA.out]; simp [hvl, h2])
        go_wp2_with fail
        rw [← hw6]
        clear hw6
        clear old6_b_0 old6_b_1 old6_e_0 old6_e_1 raw6_b_0 raw6_b_1 raw6_e_0 raw6_e_1 raw6_p_0 raw6_p_1
        refine (nameOk_any _ _ hs).mono ?_
        rintro e w' ⟨rfl, rfl⟩
        go_wp2_with fail
        refine (within_any _ _ _ _).mono ?_
        rintro e w' ⟨rfl, rfl⟩
        go_wp2_with fail
        go_ret
        exact ⟨ret_bool HE.out.symm, hb6⟩
      have HA2 := Lib.hid (show validQ ((n : Int), xs) = (varsFrom n (vs.take 0) (vs.drop 0) && validFrom n (vbits m (vs.drop 0)) (xs.drop (j + 1))) by rw [HA.out]; simp [h1, hvl, h2])
      clear HA
      go_wp2_with fail
      rw [← hw6]
      clear hw6
      clear old6_b_0 old6_b_1 old6_e_0 old6_e_1 raw6_b_0 raw6_b_1 raw6_e_0 raw6_e_1 raw6_p_0 raw6_p_1
      refine (nameOk_any _ _ hs).mono ?_
      rintro e w' ⟨rfl, rfl⟩
      go_wp2_with fail
      refine (within_any _ _ _ _).mono ?_
      rintro e w' ⟨rfl, rfl⟩
      have h3 := h2
      simp only [betw, Bool.and_eq_true, decide_eq_true_eq] at h3
      go_wp2_with fail
      clear h1 h2
      go_loopw [43] (fun k wr => ∃ i m : Nat, i ≤ vn ∧ m < 2 ^ n ∧ k = .int .i64 i ∧ Hid (validQ ((n : Int), xs) = (varsFrom n (vs.take i) (vs.drop i) && validFrom n (vbits m (vs.drop i)) (xs.drop (j + 1)))) ∧ Bools wr (w.heap.size + 1) n m ∧ Turn (w.heap.size + 1) (w.heap.size + 2) w6 wr) (fun k _ => vn - (intOf k).toNat)
      case atStart => exact ⟨0, m, Nat.zero_le _, hm, rfl, HA2.out, hB, turn_refl _ _ _⟩
      case round =>
        obtain ⟨i, m, hi, hm, rfl, hE, hB, hdr⟩ := hrel
        have hlo := hdr
        have s7 := hdr.size
        have hb7 := hb6.trans ((hdr.below (by omega)).mono (by omega))
        replace b_0 := (hdr.cell (p := ⟨w.heap.size, 0, none⟩) (by simp only []; omega) (by simp only []; omega)).trans b_0
        replace b_1 := (hdr.cell (p := ⟨w.heap.size, 1, none⟩) (by simp only []; omega) (by simp only []; omega)).trans b_1
        replace hlc := hlc.trans hdr
        replace e_0 := (hdr.cell (p := ⟨b1, o1 + j * 2, none⟩) (by simp only []; omega) (by simp only []; omega)).trans e_0
        replace e_1 := (hdr.cell (p := ⟨b1, o1 + j * 2 + 1, none⟩) (by simp only []; omega) (by simp only []; omega)).trans e_1
        replace p_0 := (hdr.cell (p := ⟨wo.heap.size, 0, none⟩) (by simp only []; omega) (by simp only []; omega)).trans p_0
        replace p_1 := (hdr.cell (p := ⟨wo.heap.size, 1, none⟩) (by simp only []; omega) (by simp only []; omega)).trans p_1
        have hm16 := pow_le16 hn4
        have i0 := rI_ints g2
        by_cases hlv : i < vn
        · obtain ⟨b2, o2, v, rfl, hc, hv, hv1, hv2⟩ := i0.get hlv
          have v0_lt : b2 < w.heap.size := cell_lt hc
          have v0 : wr.cell? ⟨b2, o2 + i, none⟩ = some (.int .i64 v) := (hb7.cell (p := ⟨b2, o2 + i, none⟩) v0_lt).trans hc
          clear hc
          by_cases h4 : betw v 0 ((n : Int) - 1) = true
          case neg =>
            replace h4 : betw v 0 ((n : Int) - 1) = false := by simpa using h4
            have HE := Lib.hid (show validQ ((n : Int), xs) = false by rw [hE.out, vars_no (by omega) hv.out (by simp [h4])]; rfl)
            clear i0 hvl hB
            go_wp2_with fail
            refine (within_any _ _ _ _).mono ?_
            rintro e w' ⟨rfl, rfl⟩
            go_wp2_with fail
            go_ret
            exact ⟨ret_bool HE.out.symm, hb7⟩
          have hcall := contains_any (some ⟨b2, o2, none⟩) i vc (vs.take i) v wr ((i0.takeTo (by omega)).below hb7)
          obtain ⟨t, ht⟩ : ∃ t, t = has (vs.take i) v := ⟨_, rfl⟩
          rw [← ht] at hcall
          have HC := Lib.hid hcall
          clear hcall
          have h5 := h4
          simp only [betw, Bool.and_eq_true, decide_eq_true_eq] at h5
          obtain ⟨v, rfl⟩ := Int.eq_ofNat_of_zero_le h5.1
          have hvn : v < n := by omega
          clear h5
          cases t with
          | true =>
            have HE := Lib.hid (show validQ ((n : Int), xs) = false by rw [hE.out, vars_no (by omega) hv.out (by rw [← ht]; simp)]; rfl)
            clear i0 hvl ht hB
            go_wp2_with fail
            refine (within_any _ _ _ _).mono ?_
            rintro e w' ⟨rfl, rfl⟩
            go_wp2_with fail
            refine (HC.out).mono ?_
            rintro e w' ⟨rfl, rfl⟩
            go_wp2_with fail
            go_ret
            exact ⟨ret_bool HE.out.symm, hb7⟩
          | false =>
            have HE := Lib.hid (hE.out.trans (show _ = (varsFrom n (vs.take (i + 1)) (vs.drop (i + 1)) && validFrom n (vbits (m ||| 2 ^ v) (vs.drop (i + 1))) (xs.drop (j + 1))) by rw [vars_yes (by omega) hv.out h4 ht.symm, vbits_at (by omega) hv.out]))
            have hB' := hB.set hvn
            have hk := hB.cell hvn
            have hf := hB.frozen v
            have hmo := or_lt hm hvn
            clear i0 hvl ht hB
            go_wp2_with fail
            refine (within_any _ _ _ _).mono ?_
            rintro e w' ⟨rfl, rfl⟩
            go_wp2_with fail
            refine (HC.out).mono ?_
            rintro e w' ⟨rfl, rfl⟩
            go_wp2_with fail
            go_roundw
            case rel => exact ⟨i + 1, m ||| 2 ^ v, by omega, hmo, by go_num, HE.out, hB', hlo.setCell (Nat.le_refl _) (by simp only []; omega) _⟩
            case measure => simp [intOf]; omega
        · have HE := Lib.hid (show validQ ((n : Int), xs) = validFrom n m (xs.drop (j + 1)) by rw [hE.out, vars_end (by omega), vbits_end (by omega)]; rfl)
          clear i0 hvl
          go_wp2_with fail
          go_roundw
          case rel => exact ⟨j + 1, m, by omega, hm, by go_num, HE.out, hB, hlc⟩
          case measure => simp [intOf]; omega
    · have HE := Lib.hid (hE.out.trans (validFrom_end (by omega)))
      clear t0 hl hE HV
      go_wp2_with fail
      refine (containsBools _ _ _ _ _ hB hn4 hm).mono ?_
      rintro e w' ⟨rfl, rfl⟩
      obtain ⟨t, ht⟩ : ∃ t, t = decide (m = 2 ^ n - 1) := ⟨_, rfl⟩
      rw [← ht] at HE ⊢
      clear ht
      go_wp2_with fail
      go_ret
      exact ⟨ret_bool (by rw [HE.out] <;> simp), hb5⟩

end Go.Proofs.YtkipgbgkhffkkaaGreat

/- Contracts: whether a query is valid: the reference's. -/
namespace Go.Proofs.YtkipgbgkhffkkaaGreat
open Go.RowKit
set_option linter.unusedVariables false
set_option linter.unusedSimpArgs false
set_option synthInstance.maxSize 2000
set_option synthInstance.maxHeartbeats 400000

set_option maxHeartbeats 2000000 in
theorem validQ_spec (cs : List Value) (x : DQ) (w : World) (h : rQ.rep w cs x) :
    Calls Tryz.prog 77 #[.agg cs.toArray] w fun e w' => e = .returned (.bool (validQ x)) ∧ Below w.heap.size w w' := by
  obtain ⟨ub, un, uc, rfl, hi, g1⟩ := rQ_open h
  clear h
  obtain ⟨i, xs⟩ := x
  simp only at hi g1
  obtain ⟨hi1, hi2⟩ := hi
  have t0 := rS_sl g1
  have hl := t0.len
  have hn := t0.small
  clear t0
  have hb0 : Below w.heap.size w w := Below.refl _ _
  by_cases h1 : betw i 1 4 = true
  case neg =>
    replace h1 : betw i 1 4 = false := by simpa using h1
    have HE := Lib.hid (validQ_no1 (q := (i, xs)) h1)
    go_enter Tryz.func77, Tryz.ntmps77
    obtain ⟨w1, hw1⟩ : ∃ W, W = w.alloc (.cells #[.int .i64 i, .slice ub un uc] 38) := ⟨_, rfl⟩
    have z1 : Below w.heap.size w w1 := by rw [hw1]; exact (Below.refl _ _).alloc (Nat.le_refl _) _
    have s1 : w1.heap.size = w.heap.size + 1 := by rw [hw1]; simp
    have hb1 := on hb0 z1
    have b_0 : w1.cell? ⟨w.heap.size, 0, none⟩ = some (.int .i64 i) := by rw [hw1]; exact box_cell (Below.refl _ _) rfl
    have b_1 : w1.cell? ⟨w.heap.size, 1, none⟩ = some (.slice ub un uc) := by rw [hw1]; exact box_cell (Below.refl _ _) rfl
    have raw1_b_0 := b_0
    have raw1_b_1 := b_1
    rw [hw1] at raw1_b_0 raw1_b_1
    go_wp2_with fail
    rw [← hw1]
    clear hw1
    clear raw1_b_0 raw1_b_1
    refine (l1In_any _ _ _ _).mono ?_
    rintro e w' ⟨rfl, rfl⟩
    clear hl
    go_wp2_with fail
    go_ret
    exact ⟨ret_bool HE.out.symm, hb1⟩
  by_cases h2 : betw un 1 4 = true
  case neg =>
    replace h2 : betw un 1 4 = false := by simpa using h2
    have HE := Lib.hid (validQ_no2 (q := (i, xs)) (by simp only []; rw [hl]; exact h2))
    go_enter Tryz.func77, Tryz.ntmps77
    obtain ⟨w2, hw2⟩ : ∃ W, W = w.alloc (.cells #[.int .i64 i, .slice ub un uc] 38) := ⟨_, rfl⟩
    have z2 : Below w.heap.size w w2 := by rw [hw2]; exact (Below.refl _ _).alloc (Nat.le_refl _) _
    have s2 : w2.heap.size = w.heap.size + 1 := by rw [hw2]; simp
    have hb2 := on hb0 z2
    have b_0 : w2.cell? ⟨w.heap.size, 0, none⟩ = some (.int .i64 i) := by rw [hw2]; exact box_cell (Below.refl _ _) rfl
    have b_1 : w2.cell? ⟨w.heap.size, 1, none⟩ = some (.slice ub un uc) := by rw [hw2]; exact box_cell (Below.refl _ _) rfl
    have raw2_b_0 := b_0
    have raw2_b_1 := b_1
    rw [hw2] at raw2_b_0 raw2_b_1
    go_wp2_with fail
    rw [← hw2]
    clear hw2
    clear raw2_b_0 raw2_b_1
    refine (l1In_any _ _ _ _).mono ?_
    rintro e w' ⟨rfl, rfl⟩
    go_wp2_with fail
    refine (l1In_any _ _ _ _).mono ?_
    rintro e w' ⟨rfl, rfl⟩
    clear hl
    go_wp2_with fail
    go_ret
    exact ⟨ret_bool HE.out.symm, hb2⟩
  have h3 := h1
  simp only [betw, Bool.and_eq_true, decide_eq_true_eq] at h3
  obtain ⟨n, rfl⟩ := Int.eq_ofNat_of_zero_le (show 0 ≤ i by omega)
  have hn1 : 1 ≤ n ∧ n ≤ 4 := by omega
  obtain ⟨hn1, hn4⟩ := hn1
  clear h3 hi1 hi2
  have HV := Lib.hid (validQ_go (xs := xs) h1 (by rw [hl]; exact h2))
  have H2 := Lib.hid h2
  go_enter Tryz.func77, Tryz.ntmps77
  obtain ⟨w3, hw3⟩ : ∃ W, W = w.alloc (.cells #[.int .i64 n, .slice ub un uc] 38) := ⟨_, rfl⟩
  have z3 : Below w.heap.size w w3 := by rw [hw3]; exact (Below.refl _ _).alloc (Nat.le_refl _) _
  have s3 : w3.heap.size = w.heap.size + 1 := by rw [hw3]; simp
  have hb3 := on hb0 z3
  have b_0 : w3.cell? ⟨w.heap.size, 0, none⟩ = some (.int .i64 n) := by rw [hw3]; exact box_cell (Below.refl _ _) rfl
  have b_1 : w3.cell? ⟨w.heap.size, 1, none⟩ = some (.slice ub un uc) := by rw [hw3]; exact box_cell (Below.refl _ _) rfl
  have raw3_b_0 := b_0
  have raw3_b_1 := b_1
  rw [hw3] at raw3_b_0 raw3_b_1
  go_wp2_with fail
  rw [← hw3]
  clear hw3
  clear raw3_b_0 raw3_b_1
  refine (l1In_any _ _ _ _).mono ?_
  rintro e w' ⟨rfl, rfl⟩
  go_wp2_with fail
  refine (l1In_any _ _ _ _).mono ?_
  rintro e w' ⟨rfl, rfl⟩
  go_wp2_with fail
  clear h1 h2
  go_loopw [3, 4] (fun s k wr => ∃ j m : Nat, j ≤ un ∧ m < 2 ^ n ∧ k = .int .i64 j ∧ s = .int .i64 m ∧ Hid (validQ ((n : Int), xs) = validFrom n m (xs.drop j)) ∧ Below w3.heap.size w3 wr) (fun _ k _ => un - (intOf k).toNat)
  case atStart => exact ⟨0, 0, Nat.zero_le _, Nat.two_pow_pos _, rfl, rfl, HV.out, Below.refl _ _⟩
  case round =>
    obtain ⟨j, m, hj, hm, rfl, rfl, hE, hdr⟩ := hrel
    obtain ⟨wo, rfl⟩ : ∃ W, W = wr := ⟨_, rfl⟩
    have hlc := hdr
    have s4 := hdr.size
    have hb4 := on hb3 hdr
    replace b_0 := (hdr.cell (p := ⟨w.heap.size, 0, none⟩) (by simp only []; omega)).trans b_0
    replace b_1 := (hdr.cell (p := ⟨w.heap.size, 1, none⟩) (by simp only []; omega)).trans b_1
    have t0 := rS_sl g1
    have hm16 := pow_le16 hn4
    by_cases hlt : j < un
    · obtain ⟨b1, o1, cs, x, rfl, hx, hr, hc⟩ := t0.at hlt
      obtain ⟨s, vs⟩ := x
      obtain ⟨vb, vn, vc, rfl, hs, g2⟩ := rA_open hr
      simp only at hs g2
      have i0 := rI_ints g2
      have hvl := i0.len
      have hvs := i0.small
      obtain ⟨hvc, hvc2⟩ := rS_cap g2
      have e_lt : b1 < w.heap.size := cell_lt (hc 0 _ rfl)
      have e_0 : wo.cell? ⟨b1, o1 + j * 2, none⟩ = some (.string s) := (hb4.cell (p := ⟨b1, o1 + j * 2, none⟩) e_lt).trans (by have h9 := hc 0 _ rfl; rw [← Nat.add_assoc] at h9; exact h9)
      have e_1 : wo.cell? ⟨b1, o1 + j * 2 + 1, none⟩ = some (.slice vb vn vc) := (hb4.cell (p := ⟨b1, o1 + j * 2 + 1, none⟩) e_lt).trans (by have h9 := hc 1 _ rfl; rw [← Nat.add_assoc] at h9; exact h9)
      have HA := Lib.hid (hE.out.trans (validFrom_at hx.out))
      clear hc t0 hr hl hx hE i0 HV
      obtain ⟨w5, hw5⟩ : ∃ W, W = wo.alloc (.cells #[.string s, .slice vb vn vc] 69) := ⟨_, rfl⟩
      have z5 : Below wo.heap.size wo w5 := by rw [hw5]; exact (Below.refl _ _).alloc (Nat.le_refl _) _
      have s5 : w5.heap.size = wo.heap.size + 1 := by rw [hw5]; simp
      have hb5 := on hb4 z5
      have old5_b_0 := b_0
      have old5_b_1 := b_1
      have old5_e_0 := e_0
      have old5_e_1 := e_1
      replace b_0 := (z5.cell (p := ⟨w.heap.size, 0, none⟩) (by simp only []; omega)).trans b_0
      replace b_1 := (z5.cell (p := ⟨w.heap.size, 1, none⟩) (by simp only []; omega)).trans b_1
      replace hlc := on hlc z5
      replace e_0 := (z5.cell (p := ⟨b1, o1 + j * 2, none⟩) (by simp only []; omega)).trans e_0
      replace e_1 := (z5.cell (p := ⟨b1, o1 + j * 2 + 1, none⟩) (by simp only []; omega)).trans e_1
      have p_0 : w5.cell? ⟨wo.heap.size, 0, none⟩ = some (.string s) := by rw [hw5]; exact box_cell (Below.refl _ _) rfl
      have p_1 : w5.cell? ⟨wo.heap.size, 1, none⟩ = some (.slice vb vn vc) := by rw [hw5]; exact box_cell (Below.refl _ _) rfl
      have raw5_b_0 := b_0
      have raw5_b_1 := b_1
      have raw5_e_0 := e_0
      have raw5_e_1 := e_1
      have raw5_p_0 := p_0
      have raw5_p_1 := p_1
      rw [hw5] at raw5_b_0 raw5_b_1 raw5_e_0 raw5_e_1 raw5_p_0 raw5_p_1
      by_cases h1 : nameB s = true
      case neg =>
        replace h1 : nameB s = false := by simpa using h1
        have HE := Lib.hid (show validQ ((n : Int), xs) = false by rw [HA.out]; simp [h1])
        go_wp2_with fail
        rw [← hw5]
        clear hw5
        clear old5_b_0 old5_b_1 old5_e_0 old5_e_1 raw5_b_0 raw5_b_1 raw5_e_0 raw5_e_1 raw5_p_0 raw5_p_1
        refine (l4Name_any _ _ hs).mono ?_
        rintro e w' ⟨rfl, rfl⟩
        go_wp2_with fail
        go_ret
        exact ⟨ret_bool HE.out.symm, hb5⟩
      by_cases h2 : betw vn 1 3 = true
      case neg =>
        replace h2 : betw vn 1 3 = false := by simpa using h2
        have HE := Lib.hid (show validQ ((n : Int), xs) = false by rw [HA.out]; simp [hvl, h2])
        go_wp2_with fail
        rw [← hw5]
        clear hw5
        clear old5_b_0 old5_b_1 old5_e_0 old5_e_1 raw5_b_0 raw5_b_1 raw5_e_0 raw5_e_1 raw5_p_0 raw5_p_1
        refine (l4Name_any _ _ hs).mono ?_
        rintro e w' ⟨rfl, rfl⟩
        go_wp2_with fail
        refine (l1In_any _ _ _ _).mono ?_
        rintro e w' ⟨rfl, rfl⟩
        go_wp2_with fail
        go_ret
        exact ⟨ret_bool HE.out.symm, hb5⟩
      have HA2 := Lib.hid (show validQ ((n : Int), xs) = (varsFrom n (vs.take 0) (vs.drop 0) && validFrom n (vbits m (vs.drop 0)) (xs.drop (j + 1))) by rw [HA.out]; simp [h1, hvl, h2])
      clear HA
      go_wp2_with fail
      rw [← hw5]
      clear hw5
      clear old5_b_0 old5_b_1 old5_e_0 old5_e_1 raw5_b_0 raw5_b_1 raw5_e_0 raw5_e_1 raw5_p_0 raw5_p_1
      refine (l4Name_any _ _ hs).mono ?_
      rintro e w' ⟨rfl, rfl⟩
      go_wp2_with fail
      refine (l1In_any _ _ _ _).mono ?_
      rintro e w' ⟨rfl, rfl⟩
      have h3 := h2
      simp only [betw, Bool.and_eq_true, decide_eq_true_eq] at h3
      go_wp2_with fail
      clear h1 h2
      go_loopw [3, 6] (fun s k wr => ∃ i m : Nat, i ≤ vn ∧ m < 2 ^ n ∧ k = .int .i64 i ∧ s = .int .i64 m ∧ Hid (validQ ((n : Int), xs) = (varsFrom n (vs.take i) (vs.drop i) && validFrom n (vbits m (vs.drop i)) (xs.drop (j + 1)))) ∧ Drew w5 wr) (fun _ k _ => vn - (intOf k).toNat)
      case atStart => exact ⟨0, m, Nat.zero_le _, hm, rfl, rfl, HA2.out, Drew.refl _⟩
      case round =>
        obtain ⟨i, m, hi, hm, rfl, rfl, hE, hdr⟩ := hrel
        have hlo := hdr
        replace hdr : Below w5.heap.size w5 wr := hdr.below _
        have s6 := hdr.size
        have hb6 := on hb5 hdr
        replace b_0 := (hdr.cell (p := ⟨w.heap.size, 0, none⟩) (by simp only []; omega)).trans b_0
        replace b_1 := (hdr.cell (p := ⟨w.heap.size, 1, none⟩) (by simp only []; omega)).trans b_1
        replace hlc := on hlc hdr
        replace e_0 := (hdr.cell (p := ⟨b1, o1 + j * 2, none⟩) (by simp only []; omega)).trans e_0
        replace e_1 := (hdr.cell (p := ⟨b1, o1 + j * 2 + 1, none⟩) (by simp only []; omega)).trans e_1
        replace p_0 := (hdr.cell (p := ⟨wo.heap.size, 0, none⟩) (by simp only []; omega)).trans p_0
        replace p_1 := (hdr.cell (p := ⟨wo.heap.size, 1, none⟩) (by simp only []; omega)).trans p_1
        have hm16 := pow_le16 hn4
        have i0 := rI_ints g2
        by_cases hlv : i < vn
        · obtain ⟨b2, o2, v, rfl, hc, hv, hv1, hv2⟩ := i0.get hlv
          have v0_lt : b2 < w.heap.size := cell_lt hc
          have v0 : wr.cell? ⟨b2, o2 + i, none⟩ = some (.int .i64 v) := (hb6.cell (p := ⟨b2, o2 + i, none⟩) v0_lt).trans hc
          clear hc
          by_cases h4 : betw v 0 ((n : Int) - 1) = true
          case neg =>
            replace h4 : betw v 0 ((n : Int) - 1) = false := by simpa using h4
            have HE := Lib.hid (show validQ ((n : Int), xs) = false by rw [hE.out, vars_no (by omega) hv.out (by simp [h4])]; rfl)
            clear i0 hvl
            go_wp2_with fail
            go_quiet ((go_at_call 54; exact quiet_same (l1In_any _ _ _ _)))
            go_wp2_with fail
            go_ret
            exact ⟨ret_bool HE.out.symm, onD hb6 ⟨_, rfl⟩⟩
          have hcall := fun q => l7Has_any (some ⟨b2, o2, none⟩) i vc (vs.take i) v (wr.drewN q) (((i0.takeTo (by omega)).below hb6).drewN q)
          obtain ⟨t, ht⟩ : ∃ t, t = has (vs.take i) v := ⟨_, rfl⟩
          rw [← ht] at hcall
          have HC := Lib.hid hcall
          clear hcall
          have h5 := h4
          simp only [betw, Bool.and_eq_true, decide_eq_true_eq] at h5
          obtain ⟨v, rfl⟩ := Int.eq_ofNat_of_zero_le h5.1
          have hvn : v < n := by omega
          clear h5
          cases t with
          | true =>
            have HE := Lib.hid (show validQ ((n : Int), xs) = false by rw [hE.out, vars_no (by omega) hv.out (by rw [← ht]; simp)]; rfl)
            clear i0 hvl ht
            go_wp2_with fail
            go_quiet ((first | (go_at_call 54; exact quiet_same (l1In_any _ _ _ _)) | (go_at_call 115; exact quiet_same (HC.out _))))
            go_wp2_with fail
            go_ret
            exact ⟨ret_bool HE.out.symm, onD hb6 ⟨_, rfl⟩⟩
          | false =>
            have HE := Lib.hid (hE.out.trans (show _ = (varsFrom n (vs.take (i + 1)) (vs.drop (i + 1)) && validFrom n (vbits (m ||| 2 ^ v) (vs.drop (i + 1))) (xs.drop (j + 1))) by rw [vars_yes (by omega) hv.out h4 ht.symm, vbits_at (by omega) hv.out]))
            have hmo := or_lt hm hvn
            clear i0 hvl ht
            go_wp2_with fail
            go_quiet ((first | (go_at_call 54; exact quiet_same (l1In_any _ _ _ _)) | (go_at_call 115; exact quiet_same (HC.out _))))
            go_wp2_with fail
            go_roundw
            case rel => exact ⟨i + 1, m ||| 2 ^ v, by omega, hmo, by go_num, by show Value.int _ _ = _; first | (rw [or_pow (by omega) (by omega)]) | (rw [← or_pow (m := m) (v := v) (by omega) (by omega)]; rfl), HE.out, hlo.step _⟩
            case measure => simp [intOf]; omega
        · have HE := Lib.hid (show validQ ((n : Int), xs) = validFrom n m (xs.drop (j + 1)) by rw [hE.out, vars_end (by omega), vbits_end (by omega)]; rfl)
          clear i0 hvl
          go_wp2_with fail
          go_roundw
          case rel => exact ⟨j + 1, m, by omega, hm, by go_num, rfl, HE.out, hlc⟩
          case measure => simp [intOf]; omega
    · have HE := Lib.hid (hE.out.trans (validFrom_end (by omega)))
      clear t0 hl hE HV
      go_wp2_with fail
      go_ret
      exact ⟨ret_bool (by rw [HE.out]; exact full_eq (by omega)), hb4⟩

end Go.Proofs.YtkipgbgkhffkkaaGreat

/- Contracts: whether a row of a table agrees with the first values of an answer, by the reference. -/
namespace Go.Proofs.YtkipgbgkhffkkaaGreat
open Go.RowKit
set_option linter.unusedVariables false
set_option linter.unusedSimpArgs false
set_option synthInstance.maxSize 2000
set_option synthInstance.maxHeartbeats 400000

theorem allFrom_at {f : Nat → Bool} {k n : Nat} (h : k < n) : ((List.range n).drop k).all f = (f k && ((List.range n).drop (k + 1)).all f) := by
  rw [drop_at (List.getElem?_range h), List.all_cons]
theorem allFrom_end {f : Nat → Bool} {k n : Nat} (h : n ≤ k) : ((List.range n).drop k).all f = true := by
  rw [List.drop_eq_nil_of_le (by simpa using h)]; rfl
theorem anyFrom_at {α : Type} {f : α → Bool} {xs : List α} {j : Nat} {x : α} (h : xs[j]? = some x) : (xs.drop j).any f = (f x || (xs.drop (j + 1)).any f) := by
  rw [drop_at h, List.any_cons]
theorem anyFrom_end {α : Type} {f : α → Bool} {xs : List α} {j : Nat} (h : xs.length ≤ j) : (xs.drop j).any f = false := by
  rw [List.drop_eq_nil_of_le h]; rfl

set_option maxRecDepth 100000 in
set_option maxHeartbeats 4000000 in
theorem fits_any (cs ds : List Value) (t : DT) (x : DA) (vb rb : Option Addr) (vn vc rn rc : Nat) (vars row : List Int) (w : World) (ht : rT.rep w cs t) (hx : rA.rep w ds x) (hv : Ints w vb vn vars) (hr : Ints w rb rn row) (hrv : rn ≤ vn) (hrow : ∀ r ∈ t.2.2, r.length = x.2.length) :
    Calls Tryz.prog 97 #[.agg cs.toArray, .agg ds.toArray, .slice vb vn vc, .slice rb rn rc] w fun e w' => e = .returned (.bool (fitsB vars row (t.2.2, x.2))) ∧ Below w.heap.size w w' := by
  obtain ⟨ub, un, uc, rfl, hs, hi, g1⟩ := rT_open ht
  obtain ⟨ab, an, ac, rfl, hs2, g2⟩ := rA_open hx
  obtain ⟨s, ar, rows⟩ := t
  obtain ⟨m1, av⟩ := x
  simp only at hs hi g1 hs2 g2 hrow
  have t0 := rS_sl g1
  have i0 := rI_ints g2
  have hl := t0.len
  have hn := t0.small
  have hal := i0.len
  have han := i0.small
  have hvl := hv.len
  have hrl := hr.len
  have hvn := hv.small
  have hrn := hr.small
  have HR := Lib.hid hrow
  obtain ⟨F, hF⟩ : ∃ F, fitsB vars row (rows, av) = F := ⟨_, rfl⟩
  have HF : Hid (F = (rows.drop 0).any (agree av vars row)) := Lib.hid (by rw [← hF]; rfl)
  show Calls Tryz.prog 97 _ w fun e w' => e = .returned (.bool (fitsB vars row (rows, av))) ∧ Below w.heap.size w w'
  rw [hF]
  clear ht hx hs hi g1 hs2 g2 hrow hF
  have hb0 : Below w.heap.size w w := Below.refl _ _
  go_enter Tryz.func97, Tryz.ntmps97
  obtain ⟨w1, hw1⟩ : ∃ W, W = w.alloc (.cells #[.string s, .int .i64 ar, .slice ub un uc] 65) := ⟨_, rfl⟩
  have z1 : Below w.heap.size w w1 := by rw [hw1]; exact (Below.refl _ _).alloc (Nat.le_refl _) _
  have s1 : w1.heap.size = w.heap.size + 1 := by rw [hw1]; simp
  have hb1 := on hb0 z1
  have t_0 : w1.cell? ⟨w.heap.size, 0, none⟩ = some (.string s) := by rw [hw1]; exact box_cell (Below.refl _ _) rfl
  have t_1 : w1.cell? ⟨w.heap.size, 1, none⟩ = some (.int .i64 ar) := by rw [hw1]; exact box_cell (Below.refl _ _) rfl
  have t_2 : w1.cell? ⟨w.heap.size, 2, none⟩ = some (.slice ub un uc) := by rw [hw1]; exact box_cell (Below.refl _ _) rfl
  have raw1_t_0 := t_0
  have raw1_t_1 := t_1
  have raw1_t_2 := t_2
  rw [hw1] at raw1_t_0 raw1_t_1 raw1_t_2
  obtain ⟨w2, hw2⟩ : ∃ W, W = w1.alloc (.cells #[.string m1, .slice ab an ac] 69) := ⟨_, rfl⟩
  have z2 : Below w1.heap.size w1 w2 := by rw [hw2]; exact (Below.refl _ _).alloc (Nat.le_refl _) _
  have s2 : w2.heap.size = w1.heap.size + 1 := by rw [hw2]; simp
  have hb2 := on hb1 z2
  replace t_0 := (z2.cell (p := ⟨w.heap.size, 0, none⟩) (by simp only []; omega)).trans t_0
  replace t_1 := (z2.cell (p := ⟨w.heap.size, 1, none⟩) (by simp only []; omega)).trans t_1
  replace t_2 := (z2.cell (p := ⟨w.heap.size, 2, none⟩) (by simp only []; omega)).trans t_2
  have e2 : w1.heap.size = w.heap.size + 1 := by omega
  have x_0 : w2.cell? ⟨w1.heap.size, 0, none⟩ = some (.string m1) := by rw [hw2]; exact box_cell (Below.refl _ _) rfl
  have x_1 : w2.cell? ⟨w1.heap.size, 1, none⟩ = some (.slice ab an ac) := by rw [hw2]; exact box_cell (Below.refl _ _) rfl
  rw [e2] at x_0 x_1
  have raw2_t_0 := t_0
  have raw2_t_1 := t_1
  have raw2_t_2 := t_2
  have raw2_x_0 := x_0
  have raw2_x_1 := x_1
  rw [hw2, hw1] at raw2_t_0 raw2_t_1 raw2_t_2 raw2_x_0 raw2_x_1
  go_wp2_with fail
  rw [← hw1]
  rw [← hw2]
  clear hw2 hw1
  clear raw1_t_0 raw1_t_1 raw1_t_2 raw2_t_0 raw2_t_1 raw2_t_2 raw2_x_0 raw2_x_1
  go_loopw [9] (fun k wr => ∃ j : Nat, j ≤ un ∧ k = .int .i64 j ∧ Hid (F = (rows.drop j).any (agree av vars row)) ∧ Drew w2 wr) (fun k _ => un - (intOf k).toNat)
  case atStart => exact ⟨0, Nat.zero_le _, rfl, HF.out, Drew.refl _⟩
  case round =>
    obtain ⟨i, hi, rfl, hE, hdr⟩ := hrel
    obtain ⟨wo, rfl⟩ : ∃ W, W = wr := ⟨_, rfl⟩
    have hlo := hdr
    clear HF
    replace hdr : Below w2.heap.size w2 wo := hdr.below _
    have s3 := hdr.size
    have hb3 := on hb2 hdr
    replace t_0 := (hdr.cell (p := ⟨w.heap.size, 0, none⟩) (by simp only []; omega)).trans t_0
    replace t_1 := (hdr.cell (p := ⟨w.heap.size, 1, none⟩) (by simp only []; omega)).trans t_1
    replace t_2 := (hdr.cell (p := ⟨w.heap.size, 2, none⟩) (by simp only []; omega)).trans t_2
    replace x_0 := (hdr.cell (p := ⟨w.heap.size + 1, 0, none⟩) (by simp only []; omega)).trans x_0
    replace x_1 := (hdr.cell (p := ⟨w.heap.size + 1, 1, none⟩) (by simp only []; omega)).trans x_1
    by_cases hlt : i < un
    · obtain ⟨b1, o1, yb, yn, yc, y, rfl, hcy, hy, iy, _⟩ := t0.row hlt
      have hyl := iy.len
      have hya : yn = an := by have := HR.out y (List.mem_of_getElem? hy.out); omega
      have y0 : wo.cell? ⟨b1, o1 + i, none⟩ = some (.slice yb yn yc) := ((hb3).cell (p := ⟨b1, o1 + i, none⟩) (cell_lt hcy)).trans hcy
      have hyb1 : b1 < w.heap.size := cell_lt hcy
      have HA := Lib.hid (hE.out.trans (anyFrom_at hy.out))
      obtain ⟨A, hA⟩ : ∃ A, agree av vars row y = A := ⟨_, rfl⟩
      rw [hA] at HA
      have HA0 : Hid (A = (true && ((List.range av.length).drop 0).all (agreeK av vars row y))) := Lib.hid (by rw [← hA, Bool.true_and]; rfl)
      clear hE hcy hy hA hyl
      go_wp2_with fail
      go_loopw [10, 11] (fun s k wr => ∃ (q : Nat) (b : Bool), q ≤ an ∧ s = .bool b ∧ k = .int .i64 q ∧ Hid (A = (b && ((List.range av.length).drop q).all (agreeK av vars row y))) ∧ Drew wo wr) (fun _ k _ => an - (intOf k).toNat)
      case atStart => exact ⟨0, true, Nat.zero_le _, rfl, rfl, HA0.out, Drew.refl _⟩
      case round =>
        obtain ⟨k, q, hk, rfl, rfl, hG, hdr⟩ := hrel
        obtain ⟨wk, rfl⟩ : ∃ W, W = wr := ⟨_, rfl⟩
        have hlk := hdr
        clear HA0
        replace hdr : Below wo.heap.size wo wk := hdr.below _
        have s4 := hdr.size
        have hb4 := on hb3 hdr
        replace t_0 := (hdr.cell (p := ⟨w.heap.size, 0, none⟩) (by simp only []; omega)).trans t_0
        replace t_1 := (hdr.cell (p := ⟨w.heap.size, 1, none⟩) (by simp only []; omega)).trans t_1
        replace t_2 := (hdr.cell (p := ⟨w.heap.size, 2, none⟩) (by simp only []; omega)).trans t_2
        replace x_0 := (hdr.cell (p := ⟨w.heap.size + 1, 0, none⟩) (by simp only []; omega)).trans x_0
        replace x_1 := (hdr.cell (p := ⟨w.heap.size + 1, 1, none⟩) (by simp only []; omega)).trans x_1
        replace y0 := (hdr.cell (p := ⟨b1, o1 + i, none⟩) (by simp only []; omega)).trans y0
        by_cases hltk : k < an
        · obtain ⟨b2, o2, u, rfl, hcu, hu, hu1, hu2⟩ := i0.get hltk
          have hub2 : b2 < w.heap.size := cell_lt hcu
          have u0 : wk.cell? ⟨b2, o2 + k, none⟩ = some (.int .i64 u) := ((hb4).cell (p := ⟨b2, o2 + k, none⟩) (cell_lt hcu)).trans hcu
          obtain ⟨b3, o3, z, rfl, hcz, hz, hz1, hz2⟩ := iy.get (show k < yn by omega)
          have hzb3 : b3 < w.heap.size := cell_lt hcz
          have z0 : wk.cell? ⟨b3, o3 + k, none⟩ = some (.int .i64 z) := ((hb4).cell (p := ⟨b3, o3 + k, none⟩) (cell_lt hcz)).trans hcz
          have HK := Lib.hid (hG.out.trans (by rw [allFrom_at (show k < av.length by omega), ← Bool.and_assoc]))
          obtain ⟨B, hB⟩ : ∃ B, (q && agreeK av vars row y k) = B := ⟨_, rfl⟩
          rw [hB] at HK
          have HB0 : Hid (B = (q && ((List.range row.length).drop 0).all (agreeJ av vars row y k))) := Lib.hid (by rw [← hB]; rfl)
          have hky : k < yn := by omega
          clear hG hcu hcz hB
          go_wp2_with fail
          go_loopw [10, 12] (fun s k' wr => ∃ (p : Nat) (b : Bool), p ≤ rn ∧ s = .bool b ∧ k' = .int .i64 p ∧ Hid (B = (b && ((List.range row.length).drop p).all (agreeJ av vars row y k))) ∧ Drew wk wr) (fun _ k' _ => rn - (intOf k').toNat)
          case atStart => exact ⟨0, q, Nat.zero_le _, rfl, rfl, HB0.out, Drew.refl _⟩
          case round =>
            obtain ⟨j, b, hj, rfl, rfl, hH, hdr⟩ := hrel
            have hlj := hdr
            clear HB0
            replace hdr : Below wk.heap.size wk wr := hdr.below _
            have s5 := hdr.size
            have hb5 := on hb4 hdr
            replace t_0 := (hdr.cell (p := ⟨w.heap.size, 0, none⟩) (by simp only []; omega)).trans t_0
            replace t_1 := (hdr.cell (p := ⟨w.heap.size, 1, none⟩) (by simp only []; omega)).trans t_1
            replace t_2 := (hdr.cell (p := ⟨w.heap.size, 2, none⟩) (by simp only []; omega)).trans t_2
            replace x_0 := (hdr.cell (p := ⟨w.heap.size + 1, 0, none⟩) (by simp only []; omega)).trans x_0
            replace x_1 := (hdr.cell (p := ⟨w.heap.size + 1, 1, none⟩) (by simp only []; omega)).trans x_1
            replace y0 := (hdr.cell (p := ⟨b1, o1 + i, none⟩) (by simp only []; omega)).trans y0
            replace u0 := (hdr.cell (p := ⟨b2, o2 + k, none⟩) (by simp only []; omega)).trans u0
            replace z0 := (hdr.cell (p := ⟨b3, o3 + k, none⟩) (by simp only []; omega)).trans z0
            by_cases hltj : j < rn
            · obtain ⟨b4, o4, g, rfl, hcg, hg, hg1, hg2⟩ := hv.get (show j < vn by omega)
              have hgb4 : b4 < w.heap.size := cell_lt hcg
              have g0 : wr.cell? ⟨b4, o4 + j, none⟩ = some (.int .i64 g) := ((hb5).cell (p := ⟨b4, o4 + j, none⟩) (cell_lt hcg)).trans hcg
              obtain ⟨b5, o5, r, rfl, hcr, hr9, hr1, hr2⟩ := hr.get hltj
              have hrb5 : b5 < w.heap.size := cell_lt hcr
              have r0 : wr.cell? ⟨b5, o5 + j, none⟩ = some (.int .i64 r) := ((hb5).cell (p := ⟨b5, o5 + j, none⟩) (cell_lt hcr)).trans hcr
              have HS : Hid (B = ((b && (!decide (g = u) || decide (r = z))) && ((List.range row.length).drop (j + 1)).all (agreeJ av vars row y k))) := Lib.hid (by rw [hH.out, allFrom_at (show j < row.length by omega), ← Bool.and_assoc, agreeJ, hg.out, hu.out, hr9.out, hz.out])
              clear hH hcg hcr hg hr9
              have hjv : (j : Int) < (vn : Int) := by omega
              cases b with
              | false =>
                have HN : Hid (B = (false && ((List.range row.length).drop (j + 1)).all (agreeJ av vars row y k))) := Lib.hid (by rw [HS.out, Bool.false_and])
                clear HS
                go_wp2_with fail
                go_quiet (fail)
                go_wp2_with fail
                go_roundw
                case rel => exact ⟨j + 1, false, by omega, rfl, by go_num, HN.out, hlj.step _⟩
                case measure => simp [intOf]; omega
              | true =>
                by_cases hgu : g = u
                · by_cases hrz : r = z
                  · have HN : Hid (B = (true && ((List.range row.length).drop (j + 1)).all (agreeJ av vars row y k))) := Lib.hid (by rw [HS.out, decide_eq_true hrz, Bool.or_true, Bool.and_true])
                    have d1 : (g != u) = false := by simp [hgu]
                    have d2 : (r == z) = true := by simp [hrz]
                    clear HS hgu hrz
                    go_wp2_with fail
                    go_quiet (fail)
                    go_wp2_with fail
                    go_roundw
                    case rel => exact ⟨j + 1, true, by omega, rfl, by go_num, HN.out, hlj.step _⟩
                    case measure => simp [intOf]; omega
                  · have HN : Hid (B = (false && ((List.range row.length).drop (j + 1)).all (agreeJ av vars row y k))) := Lib.hid (by rw [HS.out, decide_eq_true hgu, decide_eq_false hrz]; rfl)
                    have d1 : (g != u) = false := by simp [hgu]
                    have d2 : (r == z) = false := by simp [hrz]
                    clear HS hgu hrz
                    go_wp2_with fail
                    go_quiet (fail)
                    go_wp2_with fail
                    go_roundw
                    case rel => exact ⟨j + 1, false, by omega, rfl, by go_num, HN.out, hlj.step _⟩
                    case measure => simp [intOf]; omega
                · have HN : Hid (B = (true && ((List.range row.length).drop (j + 1)).all (agreeJ av vars row y k))) := Lib.hid (by rw [HS.out, decide_eq_false hgu]; rfl)
                  have d1 : (g != u) = true := by simp [hgu]
                  clear HS hgu
                  go_wp2_with fail
                  go_quiet (fail)
                  go_wp2_with fail
                  go_roundw
                  case rel => exact ⟨j + 1, true, by omega, rfl, by go_num, HN.out, hlj.step _⟩
                  case measure => simp [intOf]; omega
            · have HN : Hid (A = (b && ((List.range av.length).drop (k + 1)).all (agreeK av vars row y))) := Lib.hid (by rw [HK.out, hH.out, allFrom_end (by omega), Bool.and_true])
              clear hH HK
              go_wp2_with fail
              go_roundw
              case rel => exact ⟨k + 1, b, by omega, rfl, by go_num, HN.out, hlk.trans hlj⟩
              case measure => simp [intOf]; omega
        · have HN : Hid (A = q) := Lib.hid (by rw [hG.out, allFrom_end (by omega), Bool.and_true])
          clear hG
          cases q with
          | true =>
            have HE : Hid (F = true) := Lib.hid (by rw [HA.out, HN.out]; rfl)
            clear HA HN
            go_wp2_with fail
            go_ret
            exact ⟨ret_bool HE.out.symm, hb4⟩
          | false =>
            have HE : Hid (F = (rows.drop (i + 1)).any (agree av vars row)) := Lib.hid (by rw [HA.out, HN.out]; rfl)
            clear HA HN
            go_wp2_with fail
            go_roundw
            case rel => exact ⟨i + 1, by omega, by go_num, HE.out, hlo.trans hlk⟩
            case measure => simp [intOf]; omega
    · have HE : Hid (F = false) := Lib.hid (by rw [hE.out, anyFrom_end (by omega)])
      clear hE
      go_wp2_with fail
      go_ret
      exact ⟨ret_bool HE.out.symm, hb3⟩

end Go.Proofs.YtkipgbgkhffkkaaGreat

/- Contracts: tables looked up. -/
namespace Go.Proofs.YtkipgbgkhffkkaaGreat
open Go.RowKit Go.Sort
set_option linter.unusedVariables false
set_option linter.unusedSimpArgs false
set_option synthInstance.maxSize 2000
set_option synthInstance.maxHeartbeats 400000

/-- The place of the first table of a name, from place j on; -1 if there is none. -/
def idxFrom (name : ByteArray) (j : Nat) : List DT → Int
  | [] => -1
  | t :: r => if t.1 = name then (j : Int) else idxFrom name (j + 1) r
/-- The table of a name. -/
def look (db : DDb) (name : ByteArray) : Option DT := if validDb db then db.find? (fun t => decide (t.1 = name)) else none
theorem idxFrom_yes {name : ByteArray} {j : Nat} {xs : List DT} {t : DT} (h : xs[j]? = some t) (hn : t.1 = name) : idxFrom name j (xs.drop j) = (j : Int) := by
  rw [drop_at h, idxFrom, if_pos hn]
theorem idxFrom_no {name : ByteArray} {j : Nat} {xs : List DT} {t : DT} (h : xs[j]? = some t) (hn : t.1 ≠ name) : idxFrom name j (xs.drop j) = idxFrom name (j + 1) (xs.drop (j + 1)) := by
  rw [drop_at h, idxFrom, if_neg hn]
theorem idxFrom_end {name : ByteArray} {j : Nat} {xs : List DT} (h : xs.length ≤ j) : idxFrom name j (xs.drop j) = -1 := by
  rw [List.drop_eq_nil_of_le h]; rfl
/-- What the place says. -/
theorem idx_find {name : ByteArray} : ∀ {xs : List DT} {j : Nat}, (idxFrom name j xs = -1 ∧ xs.find? (fun t => decide (t.1 = name)) = none) ∨ ∃ k t, idxFrom name j xs = ((j + k : Nat) : Int) ∧ xs[k]? = some t ∧ xs.find? (fun t => decide (t.1 = name)) = some t
  | [], j => .inl ⟨rfl, rfl⟩
  | t :: r, j => by
    by_cases h : t.1 = name
    · exact .inr ⟨0, t, by simp [idxFrom, h], rfl, by simp [h]⟩
    · rcases @idx_find name r (j + 1) with ⟨h1, h2⟩ | ⟨k, u, h1, h2, h3⟩
      · exact .inl ⟨by rw [idxFrom, if_neg h]; exact h1, by simp [h, h2]⟩
      · exact .inr ⟨k + 1, u, by rw [idxFrom, if_neg h, h1]; omega, by simpa using h2, by simp [h, h3]⟩
theorem dbFrom_mem : ∀ {xs : List DT} {p : Option ByteArray}, dbFrom p xs = true → ∀ t ∈ xs, validT t = true
  | [], _, _, t, ht => by cases ht
  | x :: r, p, h, t, ht => by
    simp only [dbFrom, Bool.and_eq_true] at h
    rcases List.mem_cons.1 ht with rfl | ht
    · exact h.1
    · exact dbFrom_mem h.2.2 t ht
theorem rowsB_mem {n : Int} {rows : List (List Int)} (h : rowsB n rows = true) : ∀ r ∈ rows, (r.length : Int) = n ∧ ∀ v ∈ r, 0 ≤ v ∧ v ≤ 9 := by
  intro r hr
  have h1 := (List.all_eq_true.1 h) r hr
  simp only [rowB, Bool.and_eq_true, decide_eq_true_eq, List.all_eq_true, betw] at h1
  exact ⟨h1.2, fun v hv => h1.1 v hv⟩
/-- What a valid table is known to hold. -/
structure TOk (t : DT) : Prop where
  name : nameB t.1 = true
  ar : 1 ≤ t.2.1 ∧ t.2.1 ≤ 3
  len : t.2.2.length ≤ 8
  row : ∀ r ∈ t.2.2, (r.length : Int) = t.2.1 ∧ ∀ v ∈ r, 0 ≤ v ∧ v ≤ 9
  asc : ascB t.2.2 = true
theorem TOk.of {t : DT} (h : validT t = true) : TOk t := by
  simp only [validT, Bool.and_eq_true, decide_eq_true_eq, betw] at h
  exact ⟨h.1, h.2.1, h.2.2.1, rowsB_mem h.2.2.2.1, h.2.2.2.2⟩
theorem sumBy_bound {α : Type} {f : α → Nat} {B : Nat} : ∀ {xs : List α}, (∀ x ∈ xs, f x ≤ B) → sumBy f xs ≤ xs.length * B
  | [], _ => by simp [sumBy]
  | x :: t, h => by
    have h1 := h x (by simp)
    have h2 := sumBy_bound (fun y hy => h y (List.mem_cons_of_mem x hy))
    simp only [sumBy, List.map_cons, List.sum_cons, List.length_cons, Nat.add_mul, Nat.one_mul] at h2 ⊢
    omega
theorem TOk.bulk {t : DT} (h : TOk t) : bulk_T t ≤ 100 := by
  have h1 : t.1.size = 1 := by have := h.name; simp only [nameB, Bool.and_eq_true, decide_eq_true_eq] at this; exact this.1
  have h2 := h.ar
  have h3 := h.len
  have h4 : sumBy bulk_I t.2.2 ≤ t.2.2.length * 3 := sumBy_bound (fun r hr => by have := (h.row r hr).1; unfold bulk_I; omega)
  have h5 := Nat.mul_le_mul_right 3 h3
  unfold bulk_T bulk_II
  omega
theorem look_ok {db : DDb} {name : ByteArray} {t : DT} (h : look db name = some t) : TOk t := by
  unfold look at h
  split at h
  · rename_i hv
    simp only [validDb, Bool.and_eq_true] at hv
    exact TOk.of (dbFrom_mem hv.1 t (List.mem_of_find?_eq_some h))
  · cases h
theorem look_name {db : DDb} {name : ByteArray} {t : DT} (h : look db name = some t) : t.1 = name := by
  unfold look at h
  split at h
  · have := List.find?_some h; simpa using this
  · cases h

set_option maxHeartbeats 400000 in
theorem lookFn_any (cs : List Value) (t : DT) (name : ByteArray) (p : Addr) (w : World) (h : rT.rep w cs t) (hp : w.cell? p = some (.string name)) (hps : p.spot = none) :
    Calls Tryz.prog 125 #[.agg cs.toArray, .pointer (some p)] w fun e w' => e = .returned (.bool (decide (t.1 = name))) ∧ Below w.heap.size w w' := by
  obtain ⟨ub, un, uc, rfl, hs, hi, g1⟩ := rT_open h
  obtain ⟨pb, po, ps⟩ := p
  simp only at hps
  subst hps
  have hlt : pb < w.heap.size := cell_lt hp
  clear h g1
  have hb0 : Below w.heap.size w w := Below.refl _ _
  have c0 : w.cell? ⟨pb, po, none⟩ = some (.string name) := hp
  clear hp
  go_enter Tryz.func125, Tryz.ntmps125
  obtain ⟨w1, hw1⟩ : ∃ W, W = w.alloc (.cells #[.string t.1, .int .i64 t.2.1, .slice ub un uc] 65) := ⟨_, rfl⟩
  have z1 : Below w.heap.size w w1 := by rw [hw1]; exact (Below.refl _ _).alloc (Nat.le_refl _) _
  have s1 : w1.heap.size = w.heap.size + 1 := by rw [hw1]; simp
  have hb1 := on hb0 z1
  have old1_c0 := c0
  replace c0 := (z1.cell (p := ⟨pb, po, none⟩) (by simp only []; omega)).trans c0
  have b_0 : w1.cell? ⟨w.heap.size, 0, none⟩ = some (.string t.1) := by rw [hw1]; exact box_cell (Below.refl _ _) rfl
  have b_1 : w1.cell? ⟨w.heap.size, 1, none⟩ = some (.int .i64 t.2.1) := by rw [hw1]; exact box_cell (Below.refl _ _) rfl
  have b_2 : w1.cell? ⟨w.heap.size, 2, none⟩ = some (.slice ub un uc) := by rw [hw1]; exact box_cell (Below.refl _ _) rfl
  have raw1_c0 := c0
  have raw1_b_0 := b_0
  have raw1_b_1 := b_1
  have raw1_b_2 := b_2
  rw [hw1] at raw1_c0 raw1_b_0 raw1_b_1 raw1_b_2
  by_cases e : t.1 = name
  · have HE := Lib.hid (show (t.1.toList == name.toList) = true by rw [e]; simp)
    have HD := Lib.hid (decide_eq_true e)
    clear e
    have hq := HE.out
    go_wp2_with fail
    go_ret
    exact ⟨ret_bool HD.out.symm, by first | exact hb1 | (rw [hw1] at hb1; exact hb1)⟩
  · have hq := bytes_ne e
    have HD := Lib.hid (decide_eq_false e)
    clear e
    go_wp2_with fail
    go_ret
    exact ⟨ret_bool HD.out.symm, by first | exact hb1 | (rw [hw1] at hb1; exact hb1)⟩

end Go.Proofs.YtkipgbgkhffkkaaGreat

/- A slice of the call's own onto which all elements of another one are appended. -/
namespace Go.Proofs.YtkipgbgkhffkkaaGreat
open Go.RowKit
set_option linter.unusedVariables false
set_option linter.unusedSimpArgs false

theorem OS.rows_app {α : Type} (o : OS α) {w : World} {cs' : List (List Value)} {ys : List α} {fs' : List (List Nat)} (hy : o.rows w cs' ys fs') : ∀ {css : List (List Value)} {xs : List α} {fps : List (List Nat)}, o.rows w css xs fps → o.rows w (css ++ cs') (xs ++ ys) (fps ++ fs')
  | [], [], [], _ => hy
  | _ :: _, _ :: _, _ :: _, h => ⟨h.1, o.rows_app hy h.2⟩

/-- append of all elements of a slice of one's own, run. -/
theorem run_app_many {α : Type} {T E size bytes : Nat} {z : Value} (hT : Tryz.prog.underlying T = some (.slice E)) (hE : (Tryz.prog.info? E).map (fun i => (i.zero, i.size, i.bytes)) = some (some z, size, bytes)) (hz : z.cells.size = size) (hpos : 0 < size) (hby : bytes ≤ 1000)
    {o' : OS α} (hsz : o'.size = size) (hone' : ∀ {W : World} {c : List Value} {y : α} {f : List Nat}, o'.rep W c y f → ∀ u ∈ c, u.oneCell' = true) {W : World} (ty : TypeId) (v : Value) (xs : List α) (g m cu : Nat) (ys : List α) (fv fu : List Nat)
    (hv : (O.slice E o').rep W [v] xs fv) (hnd : fv.Nodup) (hu : (O.slice E o').rep W [.slice (some ⟨g, 0, none⟩) m cu] ys fu) (hynd : fu.Nodup) (hdis : ∀ k ∈ fu, k ∉ fv) (hn : xs.length + ys.length ≤ 100000000) :
    ∃ v' w' fv', (Builtin.append_ #[T, T] ty #[v, .slice (some ⟨g, 0, none⟩) m cu]).run Tryz.prog W = .ok v' w' ∧ (O.slice E o').rep w' [v'] (xs ++ ys) fv' ∧ fv'.Nodup ∧ (∀ k ∈ fv', k ∈ fv ∨ k ∈ fu ∨ (W.heap.size ≤ k ∧ k < w'.heap.size)) ∧ W.heap.size ≤ w'.heap.size ∧ (w'.os = W.os ∧ w'.tape = W.tape ∧ w'.output = W.output) ∧ (∀ k, k < W.heap.size → k ∉ fv → w'.heap[k]? = W.heap[k]?) ∧ (v' = .slice none 0 0 ↔ v = .slice none 0 0 ∧ m = 0) := by
  obtain ⟨i, hi, hz0, hz1, hz2⟩ := info_parts hE
  have hlt9 := (O.slice E o').lt hv
  have hlu9 := (O.slice E o').lt hu
  obtain ⟨v1, css, fps, hv1, rfl, hrow, hrows⟩ := hv
  simp at hv1
  subst hv1
  obtain ⟨u1, cst, fpt, hu1, rfl, hrowu, hrowsu⟩ := hu
  simp at hu1
  subst hu1
  rw [hsz] at hrow hrowu
  obtain ⟨_, _, hform, _⟩ := own_form hrowu
  simp at hform
  have hm : m = ys.length := hform.2.1
  subst hm
  have hnl := List.nodup_append.1 hnd
  have hnu := List.nodup_append.1 hynd
  have hby2 : (xs.length + ys.length) * bytes ≤ 140737488355328 := Nat.le_trans (Nat.mul_le_mul (show xs.length + ys.length ≤ 100000001 by omega) hby) (by decide)
  have hcells : ∀ j u, cst.flatten[j]? = some u → W.cell? ((⟨g, 0, none⟩ : Addr).add j) = some u := fun j u hju => by
    obtain ⟨g2, hg2, hc2⟩ := own_cell hrowu j u hju
    simp at hg2
    subst hg2
    rw [add_zero_addr]
    exact hc2
  have hone : ∀ u ∈ cst.flatten, u.oneCell' = true := by
    intro u hu
    obtain ⟨c, hc, huc⟩ := List.mem_flatten.1 hu
    obtain ⟨i9, hi9, rfl⟩ := List.mem_iff_getElem.1 hc
    have hl9 := o'.rows_len hrowsu
    obtain ⟨c2, f2, h1, h2, h3⟩ := o'.rows_get hrowsu i9 _ (List.getElem?_eq_getElem (by omega))
    rw [List.getElem?_eq_getElem hi9] at h1
    simp at h1
    subst h1
    exact hone' h3 u huc
  obtain ⟨v', w', hrun, h3, h4, h6, h5⟩ := run_append_own_at (P := Tryz.prog) W 0 T ty E i z size bytes hT hi hz0 hz1 hz2 hz hpos v xs.length css.flatten hrow ⟨g, 0, none⟩ ys.length cu cst.flatten hrowu.1 hcells hone (by unfold maxLen; omega) hby2 (Nat.zero_le _)
  have hsz' := h4.size
  have hv' : ∀ k ∈ bl v', k ∈ bl v ∨ k = W.heap.size := by
    intro k hk
    have hk' : v'.ownBlock = some k := by simpa [bl] using hk
    rcases h5 with h5 | h5
    · left; simp only [bl]; rw [← h5, hk']; simp
    · right
      rw [h5] at hk'
      simp at hk'
      omega
  have hkeep : ∀ k, k < W.heap.size → k ∉ bl v → w'.heap[k]? = W.heap[k]? := by
    intro k hk hn
    exact h4.block k hk (fun e => hn (by simp only [bl]; rw [← e]; simp))
  refine ⟨v', w', bl v' ++ (fps ++ fpt).flatten, hrun, ⟨_, css ++ cst, fps ++ fpt, rfl, rfl, ?_, ?_⟩, ?_, ?_, hsz', ⟨h4.os, h4.tape, h4.output⟩, fun k hk hx => hkeep k hk (fun hb => hx (List.mem_append_left _ hb)), h6⟩
  · rw [hsz, List.length_append, List.flatten_append]; exact h3
  · have hk1 : ∀ k, k ∈ fps.flatten → w'.heap[k]? = W.heap[k]? := fun k hk => hkeep k (hlt9 k (List.mem_append_right _ hk)) (fun hb => hnl.2.2 k hb k hk rfl)
    have hk2 : ∀ k, k ∈ fpt.flatten → w'.heap[k]? = W.heap[k]? := fun k hk => hkeep k (hlu9 k (List.mem_append_right _ hk)) (fun hb => hdis k (List.mem_append_right _ hk) (List.mem_append_left _ hb))
    exact o'.rows_app (o'.rows_frame hrowsu hk2) (o'.rows_frame hrows hk1)
  · rw [List.flatten_append, List.nodup_append]
    refine ⟨by unfold bl; cases v'.ownBlock <;> simp, ?_, ?_⟩
    · rw [List.nodup_append]
      refine ⟨hnl.2.1, hnu.2.1, ?_⟩
      intro p hp q hq e
      subst e
      exact hdis p (List.mem_append_right _ hq) (List.mem_append_right _ hp)
    · intro p hp q hq e
      subst e
      rcases hv' p hp with h8 | h8
      · rcases List.mem_append.1 hq with hq | hq
        · exact hnl.2.2 p h8 p hq rfl
        · exact hdis p (List.mem_append_right _ hq) (List.mem_append_left _ h8)
      · rcases List.mem_append.1 hq with hq | hq
        · have := hlt9 p (List.mem_append_right _ hq); omega
        · have := hlu9 p (List.mem_append_right _ hq); omega
  · intro k hk
    rcases List.mem_append.1 hk with hk | hk
    · rcases hv' k hk with h8 | h8
      · exact .inl (List.mem_append_left _ h8)
      · have h9 := (h3.lt k (by simpa [bl] using hk)).2
        exact .inr (.inr (by omega))
    · simp only [List.flatten_append, List.mem_append] at hk
      rcases hk with hk | hk
      · exact .inl (List.mem_append_right _ hk)
      · exact .inr (.inl (List.mem_append_right _ hk))

/-- In a loop that appends to a slice: all elements of another one go in. -/
theorem run_acc_many {α : Type} {T E size bytes : Nat} {z : Value} (hT : Tryz.prog.underlying T = some (.slice E)) (hE : (Tryz.prog.info? E).map (fun i => (i.zero, i.size, i.bytes)) = some (some z, size, bytes)) (hz : z.cells.size = size) (hpos : 0 < size) (hby : bytes ≤ 1000)
    {o' : OS α} (hsz : o'.size = size) (hone' : ∀ {W : World} {c : List Value} {y : α} {f : List Nat}, o'.rep W c y f → ∀ u ∈ c, u.oneCell' = true) {lo S hi9 h1 h2 : Nat} {W0 W : World} (ty : TypeId) (v : Value) (xs : List α) (g m cu : Nat) (ys : List α)
    (hown : Acc E o' lo S hi9 W v xs) (hy : Own (O.slice E o') h1 h2 W [.slice (some ⟨g, 0, none⟩) m cu] ys) (hS1 : S ≤ h1) (hhi : hi9 ≤ h1) (ht : Turn lo (lo + 1) W0 W) (hS : W0.heap.size = S) (hlo : lo < S) (hn : xs.length + ys.length ≤ 100000000) :
    ∃ v' w', (Builtin.append_ #[T, T] ty #[v, .slice (some ⟨g, 0, none⟩) m cu]).run Tryz.prog W = .ok v' w' ∧ Acc E o' lo S w'.heap.size w' v' (xs ++ ys) ∧ Turn lo (lo + 1) W0 w' ∧ W.heap.size ≤ w'.heap.size ∧ (v' = .slice none 0 0 ↔ v = .slice none 0 0 ∧ m = 0) := by
  obtain ⟨fv, hv, hnd, hlim⟩ := hown
  obtain ⟨fu, hu, hund, hulim⟩ := hy
  have hts := ht.size
  have hlu := (O.slice E o').lt hu
  have hlv := (O.slice E o').lt hv
  obtain ⟨v', w', fv', hrun, c1, c2, c3, c4, ⟨c5, c6, c7⟩, c8, c9⟩ := run_app_many (W := W) hT hE hz hpos hby hsz hone' ty v xs g m cu ys fv fu hv hnd hu hund (fun k hk hk2 => by have := hulim k hk; have := hlim k hk2; omega) hn
  refine ⟨v', w', hrun, ⟨fv', c1, c2, fun k hk => ?_⟩, ⟨c5.trans ht.os, c6.trans ht.tape, c7.trans ht.output, by omega, fun k hk hx => ?_⟩, c4, c9⟩
  · rcases c3 k hk with h | h | h
    · have := hlim k h; have := hlv k h; omega
    · have := hulim k h; have := hlu k h; omega
    · omega
  · rw [c8 k (by omega) (fun hb => by have := hlim k hb; omega)]
    exact ht.block k hk hx
theorem one_I {W : World} {c : List Value} {y : List Int} {f : List Nat} (h : oI.rep W c y f) : ∀ u ∈ c, u.oneCell' = true := by
  obtain ⟨a, cap, rfl, _⟩ := oI_own h
  intro u hu
  simp at hu
  subst hu
  rfl

/-- A number goes into a slice of one's own. -/
theorem own_num {lo hi : Nat} {W W1 : World} {v : Value} {ys : List Int} {r : Int} (ty : TypeId) (h : Own oI lo hi W [v] ys) (hr : I64 r) (hh2 : hi ≤ W.heap.size) (hlo : lo ≤ hi) (hn : ys.length ≤ 1000000) (hW1 : W1 = W.alloc (.cells #[.int .i64 r] 3)) :
    ∃ a n c w', (Builtin.append_ #[30, 30] ty #[v, .slice (some ⟨W.heap.size, 0, none⟩) 1 1]).run Tryz.prog W1 = .ok (.slice a n c) w' ∧ Own oI lo w'.heap.size w' [.slice a n c] (ys ++ [r]) ∧ Below lo W w' ∧ W.heap.size < w'.heap.size := by
  obtain ⟨fu, a2, a4, a9⟩ := h
  obtain ⟨a, n, c, w', fu', hrun, c1, c2, c3, c4, ⟨c5, c6, c7⟩, c8⟩ := run_app_fp (W := W) (W1 := W1) Tryz.underlying30 infoInt rfl (by decide) (by decide) rfl ty v ys [.int .i64 r] r fu [] a2 a4 (o' := O.int) ⟨rfl, hr, rfl⟩ (by simp) (fun k hk => by cases hk) (by intro z hz; simp at hz; subst hz; rfl) (by omega) hW1
  refine ⟨a, n, c, w', hrun, ⟨fu', c1, c2, fun k hk => ?_⟩, ⟨c5, c6, c7, by omega, fun k hk => c8 k (by omega) (fun hk2 => by have := a9 k hk2; omega)⟩, c4⟩
  rcases c3 k hk with h9 | h9 | h9
  · have := a9 k h9; omega
  · cases h9
  · omega

/-- A shape that is read in a world of old, as one that owns nothing. -/
def O.at {α : Type} (r : RS α) (W0 : World) : OS α :=
  ⟨r.size, fun _ cs x fp => r.rep W0 cs x ∧ fp = [], fun h => r.len h.1, fun h _ => h, fun h k hk => by rw [h.2] at hk; cases hk⟩
/-- A slice of one's own whose elements are read in a world of old. -/
theorem at_reads {α : Type} {E : TypeId} {r : RS α} {W0 w : World} {v : Value} {xs : List α} {fp : List Nat} (h : (O.slice E (O.at r W0)).rep w [v] xs fp) (hb : Below W0.heap.size W0 w) : (R.slice r).rep w [v] xs := by
  have key : Reads (O.at r W0) ⟨r.size, fun _ cs x => r.rep W0 cs x, fun h => r.len h, fun h _ => h⟩ := ⟨rfl, fun h => h.1⟩
  obtain ⟨a, n, cap, h1, h2, h3, h4⟩ := (Reads.slice E key).2 h
  refine ⟨a, n, cap, h1, h2, h3, h4.len, h4.small, fun i x hx => ?_⟩
  obtain ⟨b, off, cs, ha, hr, hc⟩ := h4.elem i x hx
  exact ⟨b, off, cs, ha, r.mono hr hb, hc⟩

/-- Two slices of the call's own that grow side by side. -/
def Duo {α β : Type} (E1 : TypeId) (o1 : OS α) (E2 : TypeId) (o2 : OS β) (lo hi : Nat) (w : World) (v u : Value) (xs : List α) (ys : List β) : Prop :=
  ∃ fv fu, (O.slice E1 o1).rep w [v] xs fv ∧ (O.slice E2 o2).rep w [u] ys fu ∧ fv.Nodup ∧ fu.Nodup ∧ (∀ k ∈ fv, k ∉ fu) ∧ (∀ k ∈ fv, lo ≤ k ∧ k < hi) ∧ (∀ k ∈ fu, lo ≤ k ∧ k < hi)
section
variable {α β : Type} {E1 : TypeId} {o1 : OS α} {E2 : TypeId} {o2 : OS β} {lo hi : Nat} {w : World} {v u : Value} {xs : List α} {ys : List β}
theorem Duo.mono {lo' hi' : Nat} (h : Duo E1 o1 E2 o2 lo hi w v u xs ys) (hl : lo' ≤ lo) (hh : hi ≤ hi') : Duo E1 o1 E2 o2 lo' hi' w v u xs ys := by
  obtain ⟨fv, fu, h1, h2, h3, h4, h5, h8, h9⟩ := h
  exact ⟨fv, fu, h1, h2, h3, h4, h5, fun k hk => by have := h8 k hk; omega, fun k hk => by have := h9 k hk; omega⟩
theorem Duo.frame {w' : World} (h : Duo E1 o1 E2 o2 lo hi w v u xs ys) (hb : ∀ k, lo ≤ k → k < hi → w'.heap[k]? = w.heap[k]?) : Duo E1 o1 E2 o2 lo hi w' v u xs ys := by
  obtain ⟨fv, fu, h1, h2, h3, h4, h5, h8, h9⟩ := h
  exact ⟨fv, fu, (O.slice E1 o1).frame h1 (fun k hk => hb k (h8 k hk).1 (h8 k hk).2), (O.slice E2 o2).frame h2 (fun k hk => hb k (h9 k hk).1 (h9 k hk).2), h3, h4, h5, h8, h9⟩
theorem Duo.below {w' : World} {C : Nat} (h : Duo E1 o1 E2 o2 lo hi w v u xs ys) (hb : Below C w w') (hC : hi ≤ C) : Duo E1 o1 E2 o2 lo hi w' v u xs ys :=
  h.frame fun k _ hk => hb.block k (by omega)
theorem Duo.fst (h : Duo E1 o1 E2 o2 lo hi w v u xs ys) : Own (O.slice E1 o1) lo hi w [v] xs := by
  obtain ⟨fv, fu, h1, h2, h3, h4, h5, h8, h9⟩ := h
  exact ⟨fv, h1, h3, h8⟩
theorem Duo.snd (h : Duo E1 o1 E2 o2 lo hi w v u xs ys) : Own (O.slice E2 o2) lo hi w [u] ys := by
  obtain ⟨fv, fu, h1, h2, h3, h4, h5, h8, h9⟩ := h
  exact ⟨fu, h2, h4, h9⟩
theorem Duo.mk {mid : Nat} (h : Own (O.slice E1 o1) lo mid w [v] xs) (k : Own (O.slice E2 o2) mid hi w [u] ys) (h1 : lo ≤ mid) (h2 : mid ≤ hi) : Duo E1 o1 E2 o2 lo hi w v u xs ys := by
  obtain ⟨fv, a1, a2, a3⟩ := h
  obtain ⟨fu, b1, b2, b3⟩ := k
  exact ⟨fv, fu, a1, b1, a2, b2, fun k hk hk2 => by have := a3 k hk; have := b3 k hk2; omega, fun k hk => by have := a3 k hk; omega, fun k hk => by have := b3 k hk; omega⟩
theorem Duo.swap (h : Duo E1 o1 E2 o2 lo hi w v u xs ys) : Duo E2 o2 E1 o1 lo hi w u v ys xs := by
  obtain ⟨fv, fu, h1, h2, h3, h4, h5, h8, h9⟩ := h
  exact ⟨fu, fv, h2, h1, h4, h3, fun k hk hk2 => h5 k hk2 hk, h9, h8⟩
end
/-- One more in the first. -/
theorem Duo.one {α β : Type} {T E1 size bytes : Nat} {z : Value} (hT : Tryz.prog.underlying T = some (.slice E1)) (hE : (Tryz.prog.info? E1).map (fun i => (i.zero, i.size, i.bytes)) = some (some z, size, bytes)) (hz : z.cells.size = size) (hpos : 0 < size) (hby : bytes ≤ 1000)
    {o1 : OS α} (hsz : o1.size = size) {E2 : TypeId} {o2 : OS β} {lo hi h1 h2 : Nat} {W W1 : World} {v u : Value} {xs : List α} {ys : List β} (ty : TypeId) (c : List Value) (y : α) (h : Duo E1 o1 E2 o2 lo hi W v u xs ys) (hy : Own o1 h1 h2 W c y) (hone : ∀ u ∈ c, u.oneCell' = true) (hh1 : hi ≤ h1) (hlo : lo ≤ hi) (hhi : hi ≤ W.heap.size) (hn : xs.length ≤ 100000000) (hW1 : W1 = W.alloc (.cells c.toArray E1)) :
    ∃ a n cp w', (Builtin.append_ #[T, T] ty #[v, .slice (some ⟨W.heap.size, 0, none⟩) 1 1]).run Tryz.prog W1 = .ok (.slice a n cp) w' ∧ Duo E1 o1 E2 o2 lo w'.heap.size w' (.slice a n cp) u (xs ++ [y]) ys ∧ Below lo W w' ∧ W.heap.size < w'.heap.size := by
  obtain ⟨fv, fu, a1, a2, a3, a4, a5, a8, a9⟩ := h
  obtain ⟨fy, b1, b2, b3⟩ := hy
  have hyl := o1.lt b1
  obtain ⟨a, n, cp, w', fv', hr, c1, c2, c3, c4, ⟨c5, c6, c7⟩, c8⟩ := run_app_fp (W := W) (W1 := W1) hT hE hz hpos hby hsz ty v xs c y fv fy a1 a3 b1 b2 (fun k hk hk2 => by have := b3 k hk; have := a8 k hk2; omega) hone hn hW1
  refine ⟨a, n, cp, w', hr, ⟨fv', fu, c1, (O.slice E2 o2).frame a2 (fun k hk => c8 k (by have := a9 k hk; omega) (fun hk2 => a5 k hk2 hk)), c2, a4, fun k hk hk2 => ?_, fun k hk => ?_, fun k hk => by have := a9 k hk; omega⟩, ⟨c5, c6, c7, by omega, fun k hk => c8 k (by omega) (fun hk2 => by have := a8 k hk2; omega)⟩, c4⟩
  · have := a9 k hk2
    rcases c3 k hk with h9 | h9 | h9
    · exact a5 k h9 hk2
    · have := b3 k h9; omega
    · omega
  · rcases c3 k hk with h9 | h9 | h9
    · have := a8 k h9; omega
    · have := b3 k h9; have := hyl k h9; omega
    · omega

end Go.Proofs.YtkipgbgkhffkkaaGreat

/- Contracts: masks of a query, and their variables. -/
namespace Go.Proofs.YtkipgbgkhffkkaaGreat
open Go.RowKit
set_option linter.unusedVariables false
set_option linter.unusedSimpArgs false
set_option synthInstance.maxSize 2000
set_option synthInstance.maxHeartbeats 400000

theorem full_int {n : Nat} (hn : n ≤ 16) : wrap64 (wrap64 ((2 : Int) ^ n) - 1) = ((2 ^ n - 1 : Nat) : Int) := by
  have h1 := Nat.pow_le_pow_right (show 0 < 2 by omega) hn
  have h2 := Nat.two_pow_pos n
  rw [wrap_pow hn]
  generalize 2 ^ n = p at h1 h2
  rw [IntWalk.wrap64_in _ ⟨by omega, by omega⟩]
  omega
theorem fullMask_no {q : DQ} (h : validQ q = false) : fullMask q = 0 := by simp [fullMask, h]
theorem fullMask_yes {q : DQ} (h : validQ q = true) : fullMask q = ((2 ^ q.2.length - 1 : Nat) : Int) := by simp [fullMask, h]

set_option maxHeartbeats 800000 in
theorem fullMask_impl (cs : List Value) (x : DQ) (w : World) (h : rQ.rep w cs x) :
    Calls Tryz.prog 47 #[.agg cs.toArray] w fun e w' => e = .returned (.int .i64 (fullMask x)) ∧ Below w.heap.size w w' := by
  obtain ⟨ub, un, uc, rfl, hi, g1⟩ := rQ_open h
  have hl := (rS_sl g1).len
  clear g1 hi
  have hb0 : Below w.heap.size w w := Below.refl _ _
  go_enter Tryz.func47, Tryz.ntmps47
  obtain ⟨w1, hw1⟩ : ∃ W, W = w.alloc (.cells #[.int .i64 x.1, .slice ub un uc] 38) := ⟨_, rfl⟩
  have z1 : Below w.heap.size w w1 := by rw [hw1]; exact (Below.refl _ _).alloc (Nat.le_refl _) _
  have s1 : w1.heap.size = w.heap.size + 1 := by rw [hw1]; simp
  have hb1 := on hb0 z1
  have b_0 : w1.cell? ⟨w.heap.size, 0, none⟩ = some (.int .i64 x.1) := by rw [hw1]; exact box_cell (Below.refl _ _) rfl
  have b_1 : w1.cell? ⟨w.heap.size, 1, none⟩ = some (.slice ub un uc) := by rw [hw1]; exact box_cell (Below.refl _ _) rfl
  have raw1_b_0 := b_0
  have raw1_b_1 := b_1
  rw [hw1] at raw1_b_0 raw1_b_1
  go_wp2_with fail
  rw [← hw1]
  clear hw1
  clear raw1_b_0 raw1_b_1
  refine (validQ_impl _ x _ (rQ.mono h hb1)).mono ?_
  rintro e w2 ⟨rfl, z2⟩
  have s3 := z2.size
  have hb3 := on hb1 z2
  replace b_0 := (z2.cell (p := ⟨w.heap.size, 0, none⟩) (by simp only []; omega)).trans b_0
  replace b_1 := (z2.cell (p := ⟨w.heap.size, 1, none⟩) (by simp only []; omega)).trans b_1
  by_cases hv : validQ x = true
  case neg =>
    replace hv : validQ x = false := by simpa using hv
    have HE := Lib.hid (fullMask_no hv)
    clear hl
    go_wp2_with fail
    go_ret
    exact ⟨ret_int HE.out.symm, hb3⟩
  have h9 : un ≤ 16 := by obtain ⟨n, hq⟩ := QOk.of hv; have := hq.len; omega
  have HE := Lib.hid (show wrap64 (wrap64 ((2 : Int) ^ un) - 1) = fullMask x by rw [full_int h9, fullMask_yes hv, hl])
  clear hl
  go_wp2_with fail
  go_ret
  exact ⟨ret_int HE.out, hb3⟩

set_option maxHeartbeats 800000 in
theorem fullMask_spec (cs : List Value) (x : DQ) (w : World) (h : rQ.rep w cs x) :
    Calls Tryz.prog 39 #[.agg cs.toArray] w fun e w' => e = .returned (.int .i64 (fullMask x)) ∧ Below w.heap.size w w' := by
  obtain ⟨ub, un, uc, rfl, hi, g1⟩ := rQ_open h
  have hl := (rS_sl g1).len
  clear g1 hi
  have hb0 : Below w.heap.size w w := Below.refl _ _
  go_enter Tryz.func39, Tryz.ntmps39
  obtain ⟨w1, hw1⟩ : ∃ W, W = w.alloc (.cells #[.int .i64 x.1, .slice ub un uc] 38) := ⟨_, rfl⟩
  have z1 : Below w.heap.size w w1 := by rw [hw1]; exact (Below.refl _ _).alloc (Nat.le_refl _) _
  have s1 : w1.heap.size = w.heap.size + 1 := by rw [hw1]; simp
  have hb1 := on hb0 z1
  have b_0 : w1.cell? ⟨w.heap.size, 0, none⟩ = some (.int .i64 x.1) := by rw [hw1]; exact box_cell (Below.refl _ _) rfl
  have b_1 : w1.cell? ⟨w.heap.size, 1, none⟩ = some (.slice ub un uc) := by rw [hw1]; exact box_cell (Below.refl _ _) rfl
  have raw1_b_0 := b_0
  have raw1_b_1 := b_1
  rw [hw1] at raw1_b_0 raw1_b_1
  go_wp2_with fail
  rw [← hw1]
  clear hw1
  clear raw1_b_0 raw1_b_1
  refine (validQ_spec _ x _ (rQ.mono h hb1)).mono ?_
  rintro e w2 ⟨rfl, z2⟩
  have s3 := z2.size
  have hb3 := on hb1 z2
  replace b_0 := (z2.cell (p := ⟨w.heap.size, 0, none⟩) (by simp only []; omega)).trans b_0
  replace b_1 := (z2.cell (p := ⟨w.heap.size, 1, none⟩) (by simp only []; omega)).trans b_1
  by_cases hv : validQ x = true
  case neg =>
    replace hv : validQ x = false := by simpa using hv
    have HE := Lib.hid (fullMask_no hv)
    clear hl
    go_wp2_with fail
    go_ret
    exact ⟨ret_int HE.out.symm, hb3⟩
  have h9 : un ≤ 16 := by obtain ⟨n, hq⟩ := QOk.of hv; have := hq.len; omega
  have HE := Lib.hid (show wrap64 (wrap64 ((2 : Int) ^ un) - 1) = fullMask x by rw [full_int h9, fullMask_yes hv, hl])
  clear hl
  go_wp2_with fail
  go_ret
  exact ⟨ret_int HE.out, hb3⟩

set_option maxHeartbeats 800000 in
theorem maskOk_spec (cs : List Value) (x : DQ) (k : Int) (w : World) (h : rQ.rep w cs x) :
    Calls Tryz.prog 80 #[.agg cs.toArray, .int .i64 k] w fun e w' => e = .returned (.bool (maskOkB x k)) ∧ Below w.heap.size w w' := by
  obtain ⟨ub, un, uc, rfl, hi, g1⟩ := rQ_open h
  have hl := (rS_sl g1).len
  clear g1 hi
  have hb0 : Below w.heap.size w w := Below.refl _ _
  go_enter Tryz.func80, Tryz.ntmps80
  obtain ⟨w1, hw1⟩ : ∃ W, W = w.alloc (.cells #[.int .i64 x.1, .slice ub un uc] 38) := ⟨_, rfl⟩
  have z1 : Below w.heap.size w w1 := by rw [hw1]; exact (Below.refl _ _).alloc (Nat.le_refl _) _
  have s1 : w1.heap.size = w.heap.size + 1 := by rw [hw1]; simp
  have hb1 := on hb0 z1
  have b_0 : w1.cell? ⟨w.heap.size, 0, none⟩ = some (.int .i64 x.1) := by rw [hw1]; exact box_cell (Below.refl _ _) rfl
  have b_1 : w1.cell? ⟨w.heap.size, 1, none⟩ = some (.slice ub un uc) := by rw [hw1]; exact box_cell (Below.refl _ _) rfl
  have raw1_b_0 := b_0
  have raw1_b_1 := b_1
  rw [hw1] at raw1_b_0 raw1_b_1
  go_wp2_with fail
  rw [← hw1]
  clear hw1
  clear raw1_b_0 raw1_b_1
  refine (validQ_spec _ x _ (rQ.mono h hb1)).mono ?_
  rintro e w2 ⟨rfl, z2⟩
  have s3 := z2.size
  have hb3 := on hb1 z2
  replace b_0 := (z2.cell (p := ⟨w.heap.size, 0, none⟩) (by simp only []; omega)).trans b_0
  replace b_1 := (z2.cell (p := ⟨w.heap.size, 1, none⟩) (by simp only []; omega)).trans b_1
  by_cases hv : validQ x = true
  case neg =>
    replace hv : validQ x = false := by simpa using hv
    have HE := Lib.hid (show maskOkB x k = false by simp [maskOkB, hv])
    clear hl
    go_wp2_with fail
    go_ret
    exact ⟨ret_bool HE.out.symm, hb3⟩
  have h9 : un ≤ 16 := by obtain ⟨n, hq⟩ := QOk.of hv; have := hq.len; omega
  have HE := Lib.hid (show betw k 0 (wrap64 (wrap64 ((2 : Int) ^ un) - 1)) = maskOkB x k by rw [full_int h9, ← hl]; simp [maskOkB, hv])
  clear hl
  go_wp2_with fail
  refine (l1In_any _ _ _ _).mono ?_
  rintro e w' ⟨rfl, rfl⟩
  obtain ⟨t, ht⟩ : ∃ t, t = betw k 0 (wrap64 (wrap64 ((2 : Int) ^ un) - 1)) := ⟨_, rfl⟩
  rw [← ht] at HE ⊢
  clear ht
  go_wp2_with fail
  go_ret
  exact ⟨ret_bool HE.out, hb3⟩

end Go.Proofs.YtkipgbgkhffkkaaGreat

/- Plain facts: neighbors and connected masks. -/
namespace Go.Proofs.YtkipgbgkhffkkaaGreat
open Go.RowKit
set_option linter.unusedVariables false
set_option linter.unusedSimpArgs false

/-- The atoms, from atom i on, outside a mask that share a variable with what is known; m: what is found already. -/
def nearFrom (K B m : Nat) : Nat → List DA → Nat
  | _, [] => m
  | i, a :: t => nearFrom K B (if !bitAt K i && decide (vbits 0 a.2 &&& B ≠ 0) then m ||| 2 ^ i else m) (i + 1) t
/-- The neighbors of a mask. -/
def near (q : DQ) (K : Nat) : Nat := nearFrom K (bitsOf q K) 0 0 q.2
theorem nearFrom_at {K B m j : Nat} {xs : List DA} {a : DA} (h : xs[j]? = some a) : nearFrom K B m j (xs.drop j) = nearFrom K B (if !bitAt K j && decide (vbits 0 a.2 &&& B ≠ 0) then m ||| 2 ^ j else m) (j + 1) (xs.drop (j + 1)) := by
  obtain ⟨h1, rfl⟩ := List.getElem?_eq_some_iff.1 h
  rw [List.drop_eq_getElem_cons h1]; rfl
theorem nearFrom_end {K B m j : Nat} {xs : List DA} (h : xs.length ≤ j) : nearFrom K B m j (xs.drop j) = m := by
  rw [List.drop_eq_nil_of_le h]; rfl
theorem nearFrom_lt {K B n : Nat} : ∀ {xs : List DA} {m i : Nat}, i + xs.length ≤ n → m < 2 ^ n → nearFrom K B m i xs < 2 ^ n
  | [], m, i, _, hm => hm
  | a :: t, m, i, h, hm => by
    simp only [List.length_cons] at h
    rw [nearFrom]
    refine nearFrom_lt (by omega) ?_
    split
    · exact or_lt hm (by omega)
    · exact hm
theorem near_lt (q : DQ) (K : Nat) : near q K < 2 ^ q.2.length := nearFrom_lt (by omega) (Nat.two_pow_pos _)

/-- The variables of a single atom. -/
theorem qbits_pow {i : Nat} : ∀ {xs : List DA} {m k j : Nat} {a : DA}, xs[j]? = some a → i = k + j → qbits (2 ^ i) m k xs = vbits m a.2
  | [], m, k, j, a, h, _ => by simp at h
  | x :: t, m, k, 0, a, h, hi => by
    simp at h; subst h
    obtain rfl : i = k := by omega
    rw [qbits, bitAt_testBit, Nat.testBit_two_pow_self, if_pos rfl]
    have : ∀ (xs : List DA) (m l : Nat), i < l → qbits (2 ^ i) m l xs = m := by
      intro xs
      induction xs with
      | nil => intro m l _; rfl
      | cons y ys ih => intro m l hl; rw [qbits, bitAt_testBit, Nat.testBit_two_pow_of_ne (by omega)]; simp only [Bool.false_eq_true, if_false]; exact ih m (l + 1) (by omega)
    exact this t _ _ (by omega)
  | x :: t, m, k, j + 1, a, h, hi => by
    rw [qbits, bitAt_testBit, Nat.testBit_two_pow_of_ne (by omega)]
    simp only [Bool.false_eq_true, if_false]
    exact qbits_pow (j := j) (by simpa using h) (by omega)
theorem bitsOf_pow {q : DQ} {j : Nat} {a : DA} (h : q.2[j]? = some a) : bitsOf q (2 ^ j) = vbits 0 a.2 := qbits_pow h (by omega)

/-- Some variable of an atom is among a mask's, said in both ways. -/
theorem both_pos {q : DQ} {n : Nat} (hq : QOk q n) {a : DA} (ha : a ∈ q.2) (K : Nat) : decide (0 < (both a.2 (varsOf q K)).length) = decide (vbits 0 a.2 &&& bitsOf q K ≠ 0) := by
  have hv := hq.vars a ha
  have hn := hq.le
  rw [Bool.eq_iff_iff]
  simp only [decide_eq_true_eq]
  constructor
  · intro h
    obtain ⟨x, hx⟩ := List.exists_mem_of_length_pos h
    simp only [both, List.mem_filter] at hx
    have h1 := hv x hx.1
    obtain ⟨v, rfl⟩ := Int.eq_ofNat_of_zero_le h1.1
    rw [varsOf_has q (by omega)] at hx
    intro e
    have h2 : (vbits 0 a.2 &&& bitsOf q K).testBit v = true := by
      rw [Nat.testBit_and, vbits_test (fun y hy => (hv y hy).1), hx.2]
      simp [has, hx.1]
    rw [e] at h2
    simp at h2
  · intro h
    obtain ⟨v, hv2⟩ := Nat.exists_testBit_of_ne_zero h
    rw [Nat.testBit_and, Bool.and_eq_true, vbits_test (fun y hy => (hv y hy).1)] at hv2
    simp only [Nat.zero_testBit, Bool.false_or] at hv2
    have hm : (v : Int) ∈ a.2 := by simpa [has] using hv2.1
    have h1 := hv _ hm
    refine List.length_pos_of_mem (a := (v : Int)) ?_
    simp only [both, List.mem_filter]
    exact ⟨hm, by rw [varsOf_has q (by omega)]; exact hv2.2⟩

/-- The lowest bit of a mask. -/
def lowB (K : Nat) : Nat := if K % 2 = 1 then 1 else if K % 4 = 2 then 2 else if K % 8 = 4 then 4 else if K % 16 = 8 then 8 else 0
/-- One step more. -/
def stepM (q : DQ) (K g : Nat) : Nat := g ||| (near q g &&& K)
def iterM (q : DQ) (K : Nat) : Nat → Nat → Nat
  | 0, g => g
  | k + 1, g => iterM q K k (stepM q K g)
/-- Whether the atoms of a mask hang together (so said also of the empty mask). -/
def joined (q : DQ) (K : Nat) : Bool := decide (iterM q K q.2.length (lowB K) = K)
/-- How many bits. -/
def pc (x : Nat) : Nat := x % 2 + x / 2 % 2 + x / 4 % 2 + x / 8 % 2
theorem pc_lt : ∀ a, a < 16 → ∀ b, b < 16 → a ||| b ≠ a → pc a < pc (a ||| b) := by decide +kernel
theorem pc_le : ∀ a, a < 16 → ∀ b, b < 16 → a ||| b = b → pc a ≤ pc b := by decide +kernel
theorem pc_len : ∀ n, n < 5 → ∀ K, K < 16 → K < 2 ^ n → pc K ≤ n := by decide +kernel
theorem low_facts : ∀ K, K < 16 → lowB K ||| K = K ∧ lowB K < 16 ∧ (K ≠ 0 → pc (lowB K) = 1) := by decide +kernel
theorem or_sub : ∀ g, g < 16 → ∀ K, K < 16 → ∀ x, x < 16 → g ||| K = K → (g ||| (x &&& K)) ||| K = K := by decide +kernel
theorem sub_lt : ∀ g, g < 16 → ∀ K, K < 16 → g ||| K = K → g ≤ K := by decide +kernel
theorem stepM_lt {q : DQ} {K g : Nat} (hq : q.2.length ≤ 4) (hg : g < 16) : stepM q K g < 16 := by
  have h1 := near_lt q g
  have h2 := Nat.lt_of_lt_of_le h1 (pow_le16 hq)
  exact Nat.or_lt_two_pow (n := 4) hg (Nat.lt_of_le_of_lt Nat.and_le_left h2)
theorem stepM_sub {q : DQ} {K g : Nat} (hq : q.2.length ≤ 4) (hg : g < 16) (hK : K < 16) (h : g ||| K = K) : stepM q K g ||| K = K :=
  or_sub g hg K hK _ (Nat.lt_of_lt_of_le (near_lt q g) (pow_le16 hq)) h
theorem iterM_fix {q : DQ} {K g : Nat} (h : stepM q K g = g) : ∀ k, iterM q K k g = g
  | 0 => rfl
  | k + 1 => by rw [iterM, h]; exact iterM_fix h k
theorem iterM_lt {q : DQ} {K : Nat} (hq : q.2.length ≤ 4) : ∀ k g, g < 16 → iterM q K k g < 16
  | 0, g, h => h
  | k + 1, g, h => iterM_lt hq k _ (stepM_lt hq h)
/-- A step that brings something in brings at least one bit; there are no more than the mask's. -/
theorem step_room {q : DQ} {K g i : Nat} (hq : q.2.length ≤ 4) (hg : g < 16) (hK : K < 2 ^ q.2.length) (hs : g ||| K = K) (hi : i + 1 ≤ pc g) (hne : stepM q K g ≠ g) : i + 2 ≤ pc (stepM q K g) ∧ i + 2 ≤ q.2.length := by
  have hK16 := Nat.lt_of_lt_of_le hK (pow_le16 hq)
  have hn := Nat.lt_of_lt_of_le (near_lt q g) (pow_le16 hq)
  have h1 := pc_lt g hg (near q g &&& K) (Nat.lt_of_le_of_lt Nat.and_le_left hn) hne
  have h2 := pc_le _ (stepM_lt hq hg) K hK16 (stepM_sub hq hg hK16 hs)
  have h3 := pc_len q.2.length (by omega) K hK16 hK
  unfold stepM at *
  omega
/-- IsConnected of what is valid. -/
def conn (q : DQ) (K : Nat) : Bool := decide (K ≠ 0) && joined q K
/-- The masks up to some that hang together. -/
def connTo (q : DQ) : Nat → List Int
  | 0 => []
  | m + 1 => connTo q m ++ (if joined q (m + 1) then [((m + 1 : Nat) : Int)] else [])
theorem connTo_len (q : DQ) : ∀ m, (connTo q m).length ≤ m
  | 0 => by simp [connTo]
  | m + 1 => by have := connTo_len q m; simp only [connTo, List.length_append]; split <;> simp <;> omega
theorem connTo_yes {q : DQ} {m : Nat} (h : joined q (m + 1) = true) : connTo q (m + 1) = connTo q m ++ [((m + 1 : Nat) : Int)] := by rw [connTo, h]; rfl
theorem connTo_no {q : DQ} {m : Nat} (h : joined q (m + 1) = false) : connTo q (m + 1) = connTo q m := by rw [connTo, h]; simp
/-- ConnectedMasks. -/
def connMasks (q : DQ) : List Int := connTo q (fullMask q).toNat
end Go.Proofs.YtkipgbgkhffkkaaGreat

/- Contracts: the library's bits.Mul and slices.Repeat, as the program calls them: one number, at most four times. -/
namespace Go.Proofs.YtkipgbgkhffkkaaGreat
open Go.RowKit
set_option linter.unusedVariables false
set_option linter.unusedSimpArgs false

theorem mul64_any (c : Nat) (h1 : 1 ≤ c) (h4 : c ≤ 4) (w : World) :
    Calls Tryz.prog 148 #[.int .u64 1, .int .u64 (c : Int)] w fun e w' => e = .returned (.tuple #[.int .u64 0, .int .u64 (c : Int)]) ∧ w = w' := by
  rcases (by omega : c = 1 ∨ c = 2 ∨ c = 3 ∨ c = 4) with rfl | rfl | rfl | rfl
  · go_enter Tryz.func148, Tryz.ntmps148
    go_wp2_with fail
    refine bodyPost_ret (v := .tuple #[.int .u64 0, .int .u64 1]) (by simp [results, Tryz.results148, go_sem] <;> decide) rfl ⟨rfl, rfl⟩
  · go_enter Tryz.func148, Tryz.ntmps148
    go_wp2_with fail
    refine bodyPost_ret (v := .tuple #[.int .u64 0, .int .u64 2]) (by simp [results, Tryz.results148, go_sem] <;> decide) rfl ⟨rfl, rfl⟩
  · go_enter Tryz.func148, Tryz.ntmps148
    go_wp2_with fail
    refine bodyPost_ret (v := .tuple #[.int .u64 0, .int .u64 3]) (by simp [results, Tryz.results148, go_sem] <;> decide) rfl ⟨rfl, rfl⟩
  · go_enter Tryz.func148, Tryz.ntmps148
    go_wp2_with fail
    refine bodyPost_ret (v := .tuple #[.int .u64 0, .int .u64 4]) (by simp [results, Tryz.results148, go_sem] <;> decide) rfl ⟨rfl, rfl⟩

theorem mul_any (c : Nat) (h1 : 1 ≤ c) (h4 : c ≤ 4) (w : World) :
    Calls Tryz.prog 129 #[.int .u64 1, .int .u64 (c : Int)] w fun e w' => e = .returned (.tuple #[.int .u64 0, .int .u64 (c : Int)]) ∧ w = w' := by
  have HM := Lib.hid (mul64_any c h1 h4 w)
  go_enter Tryz.func129, Tryz.ntmps129
  go_wp2_with fail
  refine HM.out.mono ?_
  rintro e w' ⟨rfl, rfl⟩
  go_wp2_with fail
  refine bodyPost_ret (v := .tuple #[.int .u64 0, .int .u64 (c : Int)]) (by simp [results, Tryz.results129, go_sem]) rfl ⟨rfl, rfl⟩

theorem setCells_kit (g : Nat) : ∀ (cs : List Value) (w : World) (i : Nat), w.setCells g i cs = setCells w g i cs
  | [], _, _ => rfl
  | c :: cs, w, i => by rw [World.setCells, setCells, setCells_kit g cs]
/-- copy inside a region or beside it, by its run. -/
theorem step_copy {ops : Array Oper} {o : Oper} {a : Act} {K : Act → World → Prop} {Q : Exit → Act → World → Prop} {E : Prop} {w w' : World} {s x : Operand} {t t' : TypeId} {vs vx v' : Value}
    {ty : TypeId} (hrun : (Builtin.copy_ #[t, t'] ty #[vs, vx]).run Tryz.prog w = .ok v' w') (hty : o.type = ty) (hgd : o.guard = none)
    (ho : o.op = .call { callee := .builtin .copy, args := #[s, x], argTypes := #[t, t'] }) (hs : a.eval s = vs) (hx : a.eval x = vx)
    (h : K (a.put o.dst v') w') :
    if Region.wanted o (yielded ops a.tmps) = true then Oper.wp Tryz.prog o a w K Q else E := by
  have hw : Region.wanted o (yielded ops a.tmps) = true := by simp [Region.wanted, hgd]
  rw [if_pos hw]
  unfold Oper.wp execOp
  simp only [ho, resolve, invoke, builtin, Sem.run_bind, Sem.run_pure, Result.andThen_ok, List.map_toArray, List.map_cons, List.map_nil, hs, hx, hty, hrun]
  exact h
theorem wpList_copy_run' {W W' : World} {ops : Array Oper} {rest : List Oper} {o : Oper} {a : Act} {Q : Exit → Act → World → Prop} {s x : Operand} {t t' ty : TypeId} {vs vx v' : Value}
    (hrun : (Builtin.copy_ #[t, t'] ty #[vs, vx]).run Tryz.prog W = .ok v' W') (hty : o.type = ty) (hgd : o.guard = none)
    (ho : o.op = .call { callee := .builtin .copy, args := #[s, x], argTypes := #[t, t'] }) (hs : a.eval s = vs) (hx : a.eval x = vx)
    (h : wpList Tryz.prog ops Q rest (a.put o.dst v') W') : wpList Tryz.prog ops Q (o :: rest) a W := by
  refine wpList_plain hgd fun K hK => ?_
  unfold Oper.wp execOp
  simp only [ho, resolve, invoke, builtin, Sem.run_bind, Sem.run_pure, Result.andThen_ok, List.map_toArray, List.map_cons, List.map_nil, hs, hx, hty, hrun]
  exact hK _ _ h
theorem infoInt1 : (Tryz.prog.info? 3).map (·.size) = some 1 := by
  obtain ⟨i, hi, _, hz, _⟩ := info_parts infoInt
  rw [hi]; simp [hz]

/-- Block g: n numbers x, then noughts, c cells in all. -/
def RepB (w : World) (g c n : Nat) (x : Int) : Prop := n ≤ c ∧ w.heap[g]? = some (.cells ((List.replicate n (Value.int .i64 x)) ++ List.replicate (c - n) (Value.int .i64 0)).toArray 3)
theorem RepB.cell {w : World} {g c n : Nat} {x : Int} (h : RepB w g c n x) {j : Nat} (hj : j < n) : w.cell? ⟨g, j, none⟩ = some (.int .i64 x) := by
  obtain ⟨hn, h⟩ := h
  simp only [World.cell?, h]
  rw [List.getElem?_toArray, List.getElem?_append_left (by simp; omega)]
  simp [hj]
theorem RepB.isS {w : World} {g c n : Nat} {x : Int} (h : RepB w g c n x) {j : Nat} (hj : j < c) : (w.cell? ⟨g, j, none⟩).isSome = true := by
  obtain ⟨hn, h⟩ := h
  simp only [World.cell?, h]
  rw [List.getElem?_toArray, List.getElem?_eq_getElem (by simp; omega)]
  rfl
theorem RepB.frozen {w : World} {g c n : Nat} {x : Int} (h : RepB w g c n x) (j : Nat) : w.frozen? ⟨g, j, none⟩ = false := by
  simp [World.frozen?, h.2]
theorem RepB.put {w : World} {g c n m : Nat} {x : Int} (h : RepB w g c n x) (hm : n + m ≤ c) : RepB (w.setCells g n (List.replicate m (.int .i64 x))) g c (n + m) x := by
  refine ⟨hm, ?_⟩
  rw [setCells_kit]
  have h2 := h.2
  rw [show c - n = m + (c - (n + m)) by omega, ← List.replicate_append_replicate] at h2
  rw [setCells_block g _ (List.replicate m (.int .i64 x)) w n (List.replicate n (.int .i64 x)) (List.replicate (c - (n + m)) (.int .i64 0)) (List.replicate m (.int .i64 0)) h2 (by simp) (by simp)]
  rw [← List.replicate_append_replicate, List.append_assoc]
theorem RepB.below {w : World} {g c n m : Nat} {x : Int} {B : Nat} (hB : B ≤ g) : Below B w (w.setCells g n (List.replicate m (.int .i64 x))) := by
  rw [setCells_kit]
  have h := setCells_only g (List.replicate m (.int .i64 x)) w n
  exact ⟨h.os, h.tape, h.output, Nat.le_of_eq h.size.symm, fun k hk => h.block k (by simp; omega)⟩
theorem RepB.of_own {w : World} {g c B : Nat} {x : Int} (h : w.ownsRow B 3 1 (.slice (some ⟨g, 0, none⟩) c c) c ((List.replicate c 0).map (Value.int .i64))) : RepB w g c 0 x := by
  rcases h.2 with ⟨hv, _⟩ | ⟨g', cap, cur, hv, _, hg, _, _, hcs, htake⟩
  · simp at hv
  · simp at hv
    obtain ⟨rfl, rfl⟩ := hv
    refine ⟨Nat.zero_le _, ?_⟩
    rw [hg]
    have e1 : cur.toList = (List.replicate c 0).map (Value.int .i64) := by
      rw [← htake, List.take_of_length_le (by simp [hcs])]
    have e3 : cur = ((List.replicate c (0 : Int)).map (Value.int .i64)).toArray := by rw [← e1]
    rw [e3]
    simp
theorem RepB.own {w : World} {g c B : Nat} {x : Int} (h : RepB w g c c x) (hx : I64 x) (hB : B ≤ g) (hc : c ≤ 1000 := by omega) : Own oI B w.heap.size w [.slice (some ⟨g, 0, none⟩) c c] (List.replicate c x) := by
  have h2 : w.ownsRow B 3 1 (.slice (some ⟨g, 0, none⟩) c c) c ((List.replicate c x).map (Value.int .i64)) := by
    refine ⟨by simp, .inr ⟨g, c, _, rfl, hB, h.2, Nat.le_refl _, by unfold maxLen; omega, by simp, by simp⟩⟩
  exact OwnInts.own ⟨by simp, h2, fun y hy => by rw [List.mem_replicate] at hy; rw [hy.2]; exact hx⟩
/-- The run of 'copy(new[n:], new[:n])'. -/
theorem run_copy_rep {w : World} {g c n k cap : Nat} {x : Int} (ty : TypeId) (h : RepB w g c n x) (hk : k ≤ n) (hkc : n + Nat.min k (c - n) ≤ c) :
    (Builtin.copy_ #[30, 30] ty #[.slice (some ⟨g, n, none⟩) (c - n) cap, .slice (some ⟨g, 0, none⟩) k c]).run Tryz.prog w = .ok (goInt (Nat.min k (c - n))) (w.setCells g n (List.replicate (Nat.min k (c - n)) (.int .i64 x))) := by
  have hmk : Nat.min k (c - n) ≤ k := Nat.min_le_left _ _
  have h9 := run_copy_cells (P := Tryz.prog) w 30 30 ty 3 g n (c - n) cap ⟨g, 0, none⟩ k c (List.replicate (Nat.min k (c - n)) (.int .i64 x)) Tryz.underlying30 infoInt1 (by simp) (fun j v hv => by
    rw [add_zero_addr]
    have hj : j < Nat.min k (c - n) := by have := (List.getElem?_eq_some_iff.1 hv).1; simpa using this
    rw [List.getElem?_replicate, if_pos hj] at hv
    simp at hv
    subst hv
    exact h.cell (by omega)) (fun j hj => h.isS (by simp at hj; omega)) (fun j hj => h.frozen _) (by intro v hv; rw [List.mem_replicate] at hv; rw [hv.2]; rfl)
  simpa using h9
/-- The run of 'copy(new, x)' for a slice of one number. -/
theorem run_copy_one {w : World} {g c : Nat} {x : Int} {a : Addr} (ty : TypeId) (h : RepB w g c 0 x) (hc : 1 ≤ c) (ha : w.cell? a = some (.int .i64 x)) (hs : a.spot = none) :
    (Builtin.copy_ #[30, 30] ty #[.slice (some ⟨g, 0, none⟩) c c, .slice (some a) 1 1]).run Tryz.prog w = .ok (.int .i64 1) (w.setCells g 0 (List.replicate 1 (.int .i64 x))) := by
  obtain ⟨b, o, s⟩ := a
  simp at hs
  subst hs
  have h9 := run_copy_cells (P := Tryz.prog) w 30 30 ty 3 g 0 c c ⟨b, o, none⟩ 1 1 (List.replicate 1 (.int .i64 x)) Tryz.underlying30 infoInt1 (by simp [Nat.min_def]; omega) (fun j v hv => by
    cases j with
    | zero => simp at hv; subst hv; rw [Addr.add_lit]; exact ha
    | succ j => simp at hv) (fun j hj => h.isS (by simp at hj; omega)) (fun j hj => h.frozen _) (by intro v hv; rw [List.mem_replicate] at hv; rw [hv.2]; rfl)
  simpa [goInt] using h9

set_option maxRecDepth 100000 in
set_option maxHeartbeats 1000000 in
theorem repeat_any (g0 : Nat) (c : Nat) (x : Int) (w : World) (h1 : 1 ≤ c) (h4 : c ≤ 4) (hx : I64 x) (hg : w.cell? ⟨g0, 0, none⟩ = some (.int .i64 x)) :
    Calls Tryz.prog 88 #[.slice (some ⟨g0, 0, none⟩) 1 1, .int .i64 (c : Int)] w fun e w' => ∃ b n q, e = .returned (.slice b n q) ∧ Own oI w.heap.size w'.heap.size w' [.slice b n q] (List.replicate c x) ∧ Below w.heap.size w w' := by
  have HM := Lib.hid (mul_any c h1 h4 w)
  have hg0 : g0 < w.heap.size := cell_lt hg
  have hc0 : ¬ (c : Int) < 0 := by omega
  have hcw : IntKind.u64.wrap (c : Int) = (c : Int) := by
    rcases (by omega : c = 1 ∨ c = 2 ∨ c = 3 ∨ c = 4) with rfl | rfl | rfl | rfl <;> decide
  have hcb : ¬ (9223372036854775807 : Int) < (c : Int) := by omega
  have hcv : IntKind.i64.wrap (c : Int) = (c : Int) := by
    rcases (by omega : c = 1 ∨ c = 2 ∨ c = 3 ∨ c = 4) with rfl | rfl | rfl | rfl <;> decide
  go_enter Tryz.func88, Tryz.ntmps88
  go_wp2_with fail
  refine HM.out.mono ?_
  rintro e w' ⟨rfl, rfl⟩
  go_wp2_with (at_make; refine wpList_mk _ _ c (by omega) rfl rfl rfl rfl ?_; intro w1 hp1 hb1 hz1; have hR0 := RepB.of_own (x := x) hp1; have hr1 := run_copy_one 3 hR0 h1 ((hb1.cell (p := ⟨g0, 0, none⟩) hg0).trans hg) rfl; have hR1 := hR0.put (m := 1) (by omega); have hB1 := hb1.trans (RepB.below (w := w1) (g := w.heap.size) (c := c) (n := 0) (m := 1) (x := x) (Nat.le_refl _)); obtain ⟨w2, hw2⟩ : ∃ W, W = w1.setCells w.heap.size 0 (List.replicate 1 (.int .i64 x)) := ⟨_, rfl⟩; rw [← hw2] at hr1 hR1 hB1; clear hp1 hR0 hw2)
  go_wp2_with (at_builtin; refine wpList_copy_run' hr1 rfl rfl rfl rfl rfl ?_)
  go_loopw [8] (fun n wr => ∃ k : Nat, 1 ≤ k ∧ k ≤ c ∧ n = .int .i64 k ∧ RepB wr w.heap.size c k x ∧ Below w.heap.size w wr) (fun n _ => c - (intOf n).toNat)
  case atStart => exact ⟨1, by omega, h1, rfl, hR1, hB1⟩
  case round =>
    obtain ⟨k, hk1, hkc, rfl, hR, hB⟩ := hrel
    clear hr1 hR1 hB1 hb1 HM
    by_cases hlt : k < c
    · obtain ⟨m, hm9, hml, hmr, hmp⟩ : ∃ m, Nat.min k (c - k) = m ∧ m ≤ k ∧ m ≤ c - k ∧ 1 ≤ m := ⟨_, rfl, Nat.min_le_left _ _, Nat.min_le_right _ _, Nat.le_min.2 ⟨by omega, by omega⟩⟩
      have hcne : ¬ c = k := by omega
      have hRd : RepB wr.drew w.heap.size c k x := hR
      have hBd : Below w.heap.size w wr.drew := hB.drew
      have hrk := run_copy_rep (cap := c - k) 3 hRd (Nat.le_refl k) (by rw [hm9]; omega)
      rw [hm9] at hrk
      have hRN := Lib.hid (hRd.put (m := m) (by omega))
      have hBN := Lib.hid (hBd.trans (RepB.below (w := wr.drew) (g := w.heap.size) (c := c) (n := k) (m := m) (x := x) (Nat.le_refl _)))
      obtain ⟨wn, hwn⟩ : ∃ W, W = wr.drew.setCells w.heap.size k (List.replicate m (.int .i64 x)) := ⟨_, rfl⟩
      rw [← hwn] at hrk hRN hBN
      have hkm : IntKind.i64.wrap ((k : Int) + (m : Int)) = ((k + m : Nat) : Int) := by rw [IntWalk.i64_in _ (by constructor <;> omega)]; omega
      clear hm9 hwn hR hB hRd hBd
      go_wp2_with fail
      refine wp_region_noPanic ?_
      refine wp_region_held_drew (S := (fun _ => True)) (by kernel_rfl) ?hS1 (fun hHeld => ?_)
      case hS1 => trivial
      refine wpAnyH_take (i := 0) (v := ?v0_2) rfl (by kernel_rfl) (by kernel_rfl) (by kernel_rfl) (fun _ _ _ h => h) (Or.inl ⟨by rfl, ?hy0_2⟩) (by assumption) ?rest0_2
      case hy0_2 => intro w hSw; (try dsimp only at hSw); go_simp; (try with_reducible rfl)
      try simp only [Act.put, List.getElem_toArray, List.getElem_cons_succ, List.getElem_cons_zero, List.setIfInBounds_toArray, List.set_cons_zero, List.set_cons_succ]
      refine wpAnyH_take (i := 1) (v := ?v1_3) rfl (by kernel_rfl) (by kernel_rfl) (by kernel_rfl) (fun _ _ _ h => h) (Or.inl ⟨by rfl, ?hy1_3⟩) (by assumption) ?rest1_3
      case hy1_3 => intro w hSw; (try dsimp only at hSw); go_simp; (try with_reducible rfl)
      try simp only [Act.put, List.getElem_toArray, List.getElem_cons_succ, List.getElem_cons_zero, List.setIfInBounds_toArray, List.set_cons_zero, List.set_cons_succ]
      refine wpAnyH_take (i := 2) (v := ?v2_4) rfl (by kernel_rfl) (by kernel_rfl) (by kernel_rfl) (fun _ _ _ h => h) (Or.inl ⟨by rfl, ?hy2_4⟩) (by assumption) ?rest2_4
      case hy2_4 => intro w hSw; (try dsimp only at hSw); go_simp; (try with_reducible rfl)
      try simp only [Act.put, List.getElem_toArray, List.getElem_cons_succ, List.getElem_cons_zero, List.setIfInBounds_toArray, List.set_cons_zero, List.set_cons_succ]
      refine wpAnyH_take (i := 3) (v := ?v3_5) rfl (by kernel_rfl) (by kernel_rfl) (by kernel_rfl) (fun _ _ _ h => h) (Or.inl ⟨by rfl, ?hy3_5⟩) (by assumption) ?rest3_5
      case hy3_5 => intro w hSw; (try dsimp only at hSw); go_simp; (try with_reducible rfl)
      try simp only [Act.put, List.getElem_toArray, List.getElem_cons_succ, List.getElem_cons_zero, List.setIfInBounds_toArray, List.set_cons_zero, List.set_cons_succ]
      refine wpAnyH_take (i := 4) (v := ?v4_6) rfl (by kernel_rfl) (by kernel_rfl) (by kernel_rfl) (fun _ _ _ h => h) (Or.inl ⟨by rfl, ?hy4_6⟩) (by assumption) ?rest4_6
      case hy4_6 => intro w hSw; (try dsimp only at hSw); go_simp; (try with_reducible rfl)
      try simp only [Act.put, List.getElem_toArray, List.getElem_cons_succ, List.getElem_cons_zero, List.setIfInBounds_toArray, List.set_cons_zero, List.set_cons_succ]
      refine wpAnyH_take (i := 5) (v := ?v5_7) rfl (by kernel_rfl) (by kernel_rfl) (by kernel_rfl) (fun _ _ _ h => h) (Or.inl ⟨by rfl, ?hy5_7⟩) (by assumption) ?rest5_7
      case hy5_7 => intro w hSw; (try dsimp only at hSw); go_simp; (try with_reducible rfl)
      try simp only [Act.put, List.getElem_toArray, List.getElem_cons_succ, List.getElem_cons_zero, List.setIfInBounds_toArray, List.set_cons_zero, List.set_cons_succ]
      refine wpAnyH_take (i := 6) (v := ?v6_8) rfl (by kernel_rfl) (by kernel_rfl) (by kernel_rfl) (fun _ _ _ h => h) (Or.inl ⟨by rfl, ?hy6_8⟩) (by assumption) ?rest6_8
      case hy6_8 => intro w hSw; (try dsimp only at hSw); go_simp; (try with_reducible rfl)
      try simp only [Act.put, List.getElem_toArray, List.getElem_cons_succ, List.getElem_cons_zero, List.setIfInBounds_toArray, List.set_cons_zero, List.set_cons_succ]
      refine wpAnyH_ready (rs := [7]) (by kernel_rfl) (by simp) ?_
      refine AllReadyH.cons rfl (fun K hK => ?_) AllReadyH.nil
      refine step_copy hrk (by rfl) (by rfl) (by rfl) (by rfl) (by rfl) ?_
      refine hK.out _ _ ?_ (fun hHeld => ?_)
      · trivial
      clear hK K
      try simp only [Act.put, List.setIfInBounds_toArray, List.set_cons_zero, List.set_cons_succ]
      refine wpAnyH_take (i := 8) (v := ?v8_9) rfl (by kernel_rfl) (by kernel_rfl) (by kernel_rfl) (fun _ _ _ h => h) (Or.inl ⟨by rfl, ?hy8_9⟩) (by assumption) ?rest8_9
      case hy8_9 => intro w hSw; (try dsimp only at hSw); go_simp; (try with_reducible rfl)
      try simp only [Act.put, List.getElem_toArray, List.getElem_cons_succ, List.getElem_cons_zero, List.setIfInBounds_toArray, List.set_cons_zero, List.set_cons_succ]
      refine wpAnyH_take (i := 9) (v := ?v9_10) rfl (by kernel_rfl) (by kernel_rfl) (by kernel_rfl) (fun _ _ _ h => h) (Or.inl ⟨by rfl, ?hy9_10⟩) (by assumption) ?rest9_10
      case hy9_10 => intro w hSw; (try dsimp only at hSw); go_simp; (try with_reducible rfl)
      try simp only [Act.put, List.getElem_toArray, List.getElem_cons_succ, List.getElem_cons_zero, List.setIfInBounds_toArray, List.set_cons_zero, List.set_cons_succ]
      refine wpAnyH_done (by kernel_rfl) ?_ _
      refine NoPanic.normal ?_
      go_wp2_with fail
      go_roundw
      case rel => exact ⟨k + m, by omega, by omega, by first | rfl | rw [hkm] | go_num, hRN.out, hBN.out⟩
      case measure => (try rw [hkm]); simp [intOf]; omega
    · obtain rfl : k = c := by omega
      have HO := Lib.hid (hR.own hx (B := w.heap.size) (Nat.le_refl _))
      go_wp2_with fail
      go_ret
      exact ⟨_, _, _, rfl, HO.out, hB⟩

end Go.Proofs.YtkipgbgkhffkkaaGreat

/- Contracts: rows sorted, each once (impl.sorted). -/
namespace Go.Proofs.YtkipgbgkhffkkaaGreat
open Go.RowKit Go.Sort
set_option linter.unusedVariables false
set_option linter.unusedSimpArgs false
set_option synthInstance.maxSize 2000
set_option synthInstance.maxHeartbeats 400000

theorem compF_nil (w : World) :
    Calls Tryz.prog 132 #[.slice none 0 0, .func (.func 133) #[] #[]] w fun e w' => e = .returned (.slice none 0 0) ∧ w' = w := by
  go_enter Tryz.func132, Tryz.ntmps132
  go_wp2_with fail
  go_ret
  exact ⟨rfl, rfl⟩

set_option maxHeartbeats 2000000 in
theorem sorted_any (v : Value) (rows : List (List Int)) (w : World) (h : rII.rep w [v] rows) (hn : bulk_II rows ≤ 100000000) :
    Calls Tryz.prog 91 #[v] w fun e w' => ∃ u, e = .returned u ∧ Own oII w.heap.size w'.heap.size w' [u] (canon rows) ∧ Below w.heap.size w w' := by
  have HC := Lib.hid (copyRows_any v rows w h hn)
  clear h
  go_enter Tryz.func91, Tryz.ntmps91
  go_wp2_with fail
  refine HC.out.mono ?_
  rintro e w1 ⟨u, rfl, ho, z1⟩
  have s1 := z1.size
  obtain ⟨a, n, c, rfl⟩ := oII_form1 ho
  rcases own_nilptr ho with ⟨rfl, rfl, rfl, rfl⟩ | ⟨g, rfl, hln⟩
  · have HO := Lib.hid ho
    clear ho
    go_wp2_with fail
    refine (Go.Proofs.AnyF.slices_SortFunc_none { Tryz.laysSlF6_f131 with } none 0 _ w1).mono ?_
    rintro e w' ⟨rfl, rfl⟩
    go_wp2_with fail
    refine (compF_nil _).mono ?_
    rintro e w' ⟨rfl, rfl⟩
    go_wp2_with fail
    go_ret
    exact ⟨_, rfl, by simpa [canon] using HO.out, z1⟩
  · obtain ⟨d, hd, hdl, hat, hg, hnd, hbd⟩ := rows_open ho
    have hgl : w.heap.size ≤ g := (hbd g (by simp)).1
    have hn9 : n ≤ 1000000000 := by
      have : rows.length ≤ bulk_II rows := by unfold bulk_II; omega
      omega
    have hsort := Tryz.slices_SortFunc El.v (fun x => x.one) cfE (swoE w1 g) 107 #[] g 0 c d.toArray w1 (enters_of Tryz.func107 (by kernel_rfl) rfl) cmpLays hat.holds hg (by simp; omega)
    rw [List.size_toArray, hdl] at hsort
    have HS := Lib.hid hsort
    clear hsort ho
    go_wp2_with fail
    refine HS.out.mono ?_
    rintro e w2 ⟨rfl, d', m, os, hp, hs, rfl⟩
    obtain ⟨hp1, hp2⟩ := permIn_all (d := d) (d' := d') (by rw [List.size_toArray, hdl]; exact hp)
    obtain ⟨hat2, hbut⟩ := At.sort (n := m) (d' := d'.toList) os hat hg (by simp; omega)
    rw [Array.toArray_toList] at hat2 hbut
    have hbl := sortW_below (lo := w.heap.size) (m := m) d' os s1 hgl
    obtain ⟨W, hW⟩ : ∃ W, W = Go.Proofs.sortWorld El.v w1 g 0 m d' os := ⟨_, rfl⟩
    rw [← hW] at hat2 hbut hbl ⊢
    have sW : w1.heap.size ≤ W.heap.size := by rw [hW]; exact (sortW_below (lo := 0) (m := m) d' os (Nat.zero_le _) (Nat.zero_le _)).size
    have HCF := Lib.hid (compF_any d'.toList W hat2 hbut sW hg n (by simp; omega) hn9)
    have HP := Lib.hid hp1
    have HSP := Lib.hid (sorted_pair (d' := d') (by rw [hp2, hdl]; exact hs))
    clear hW hat2 hat hp hs HS HC
    go_wp2_with fail
    refine HCF.out.mono ?_
    rintro e w3 ⟨rfl, hat3, hT⟩
    have hln2 : d'.toList.length = n := by simp; omega
    have hmap : (dedTo El.xs d'.toList n).map El.xs = canon rows := by
      rw [dedTo_map (by omega), List.take_of_length_le (by simp; omega)]
      refine dedup_canon (HSP.out.imp fun h => by omega) fun z => ?_
      rw [← hd]
      exact (HP.out.map El.xs).mem_iff
    have hsub : (dedTo El.xs d'.toList n).Sublist d'.toList := by
      have := dedTo_sub El.xs d'.toList n
      rwa [List.take_of_length_le (by omega)] at this
    have hfp : (fps (dedTo El.xs d'.toList n)).Sublist (fps d'.toList) := fps_sub hsub
    have hfq := fps_perm HP.out
    have hnd2 : (g :: fps d'.toList).Nodup := (List.Perm.nodup_iff (hfq.cons g)).2 hnd
    have key := rows_close (lo := w.heap.size) (hi := w1.heap.size) hat3 (Turn.but hbut sW hT) (hnd2.sublist (hfp.cons_cons g)) (fun k hk => by
      rcases List.mem_cons.1 hk with rfl | hk
      · exact hbd k (by simp)
      · exact hbd k (List.mem_cons_of_mem _ (hfq.mem_iff.1 (hfp.subset hk))))
    rw [hmap] at key
    have hs3 := hT.size
    have HK := Lib.hid (key.mono (Nat.le_refl _) (show w1.heap.size ≤ w3.heap.size by omega))
    have HB := Lib.hid (((z1.trans hbl).trans ((hT.below (by omega)).mono hgl) : Below w.heap.size w w3))
    clear key hmap hsub hfp hfq hnd2 hat3 HCF
    go_wp2_with fail
    go_ret
    exact ⟨_, rfl, HK.out, HB.out⟩

end Go.Proofs.YtkipgbgkhffkkaaGreat
