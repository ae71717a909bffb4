/- Texts joined for one claim: ValidDb, KEqual2, Look, Put, Sorted, GrpB, GrpI, GrpS. -/
import Derived.Test.YtbkoddikfpkocaaQ50428c366c
import Derived.Deep.RegionHeld3
import Derived.Shelf.SlSortCmp.NoneTotal

/- Contracts: whether a database is valid. -/
namespace Go.Proofs.Ytbkoddikfpkocaa
open Go.RowKit Go.Sort
set_option linter.unusedVariables false
set_option linter.unusedSimpArgs false
set_option synthInstance.maxSize 2000
set_option synthInstance.maxHeartbeats 400000

/-- Names compared. -/
def ltB (s t : ByteArray) : Bool := Op.bytesLess s.toList t.toList
def dbFrom (p : Option ByteArray) : List DT → Bool
  | [] => true
  | t :: r => validT t && ((match p with | none => true | some q => ltB q t.1) && dbFrom (some t.1) r)
/-- Whether a database is valid. -/
def validDb (db : DDb) : Bool := dbFrom none db && decide (db.length ≤ 6)
def prevN (db : List DT) : Nat → Option ByteArray
  | 0 => none
  | j + 1 => (db[j]?).map (fun t => t.1)
theorem dbFrom_at {p : Option ByteArray} {db : List DT} {j : Nat} {t : DT} (h : db[j]? = some t) : dbFrom p (db.drop j) = (validT t && ((match p with | none => true | some q => ltB q t.1) && dbFrom (some t.1) (db.drop (j + 1)))) := by
  rw [drop_at h]; rfl
theorem dbFrom_end {p : Option ByteArray} {db : List DT} {j : Nat} (h : db.length ≤ j) : dbFrom p (db.drop j) = true := by
  rw [List.drop_eq_nil_of_le h]; rfl
theorem prevN_at {db : List DT} {j : Nat} {t : DT} (h : db[j]? = some t) : prevN db (j + 1) = some t.1 := by simp [prevN, h]
theorem validDb_no {db : DDb} (h : dbFrom none db = false) : validDb db = false := by simp [validDb, h]
theorem validDb_len {db : DDb} {n : Nat} (hl : db.length = n) (h : dbFrom none db = true) : validDb db = decide ((n : Int) ≤ 6) := by
  rw [validDb, h, hl, Bool.eq_iff_iff]; simp only [Bool.true_and, decide_eq_true_eq]; omega

set_option maxHeartbeats 4000000 in
theorem validDb_impl (cs : List Value) (x : DDb) (w : World) (h : rDb.rep w cs x) :
    Calls Try.prog 196 #[.agg cs.toArray] w fun e w' => e = .returned (.bool (validDb x)) ∧ Below w.heap.size w w' := by
  obtain ⟨ub, un, uc, rfl, g1⟩ := rDb_open h
  clear h
  have t1 := rS_sl g1
  have hl := t1.len
  have hn := t1.small
  have HV : Hid (dbFrom none x = dbFrom (prevN x 0) (x.drop 0)) := rfl
  have HL := Lib.hid hl
  have hb0 : Below w.heap.size w w := Below.refl _ _
  go_enter Try.func196, Try.ntmps196
  obtain ⟨w1, hw1⟩ : ∃ W, W = w.alloc (.cells #[.slice ub un uc] 89) := ⟨_, rfl⟩
  have z1 : Below w.heap.size w w1 := by rw [hw1]; exact (Below.refl _ _).alloc (Nat.le_refl _) _
  have s1 : w1.heap.size = w.heap.size + 1 := by rw [hw1]; simp
  have hb1 := on hb0 z1
  have b_0 : w1.cell? ⟨w.heap.size, 0, none⟩ = some (.slice ub un uc) := by rw [hw1]; exact box_cell (Below.refl _ _) rfl
  have raw1_b_0 := b_0
  rw [hw1] at raw1_b_0
  go_wp2_with fail
  rw [← hw1]
  clear hw1
  clear raw1_b_0
  go_loopw [8] (fun k wr => ∃ j : Nat, j ≤ un ∧ k = .int .i64 j ∧ Hid (dbFrom none x = dbFrom (prevN x j) (x.drop j)) ∧ Below w1.heap.size w1 wr) (fun k _ => un - (intOf k).toNat)
  case atStart => exact ⟨0, Nat.zero_le _, rfl, HV.out, Below.refl _ _⟩
  case round =>
    obtain ⟨j, hj, rfl, hE, hdr⟩ := hrel
    obtain ⟨wo, rfl⟩ : ∃ W, W = wr := ⟨_, rfl⟩
    have hlc := hdr
    have s2 := hdr.size
    have hb2 := on hb1 hdr
    replace b_0 := (hdr.cell (p := ⟨w.heap.size, 0, none⟩) (by simp only []; omega)).trans b_0
    by_cases hlt : j < un
    · obtain ⟨b1, o1, cs, t, rfl, hx, hr, hc⟩ := t1.at hlt
      have HA := Lib.hid (hE.out.trans (dbFrom_at hx.out))
      have HP := Lib.hid (prevN_at hx.out)
      obtain ⟨s, i, rows⟩ := t
      obtain ⟨tb, tn, tc, rfl, hs, hi, g2⟩ := rT_open hr
      simp only at hs hi g2 HA HP
      have e_lt : b1 < w.heap.size := cell_lt (hc 0 _ rfl)
      have e_0 : wo.cell? ⟨b1, o1 + j * 3, none⟩ = some (.string s) := (hb2.cell (p := ⟨b1, o1 + j * 3, none⟩) e_lt).trans (by have h9 := hc 0 _ rfl; rw [← Nat.add_assoc] at h9; exact h9)
      have e_1 : wo.cell? ⟨b1, o1 + j * 3 + 1, none⟩ = some (.int .i64 i) := (hb2.cell (p := ⟨b1, o1 + j * 3 + 1, none⟩) e_lt).trans (by have h9 := hc 1 _ rfl; rw [← Nat.add_assoc] at h9; exact h9)
      have e_2 : wo.cell? ⟨b1, o1 + j * 3 + 2, none⟩ = some (.slice tb tn tc) := (hb2.cell (p := ⟨b1, o1 + j * 3 + 2, none⟩) e_lt).trans (by have h9 := hc 2 _ rfl; rw [← Nat.add_assoc] at h9; exact h9)
      have hcall := fun W (hW : Below w.heap.size w W) => validT_impl [.string s, .int .i64 i, .slice tb tn tc] (s, i, rows) W (rT.mono hr hW)
      obtain ⟨v, hv⟩ : ∃ v, v = validT (s, i, rows) := ⟨_, rfl⟩
      rw [← hv] at hcall HA
      have HC := Lib.hid hcall
      clear hcall hv hE HV hc hr g2 hl
      by_cases hj0 : j = 0
      · subst hj0
        have z_0 : wo.cell? ⟨b1, o1, none⟩ = some (.string s) := by have h9 := e_0; rw [Nat.zero_mul, Nat.add_zero] at h9; exact h9
        have z_1 : wo.cell? ⟨b1, o1 + 1, none⟩ = some (.int .i64 i) := by have h9 := e_1; rw [Nat.zero_mul, Nat.add_zero] at h9; exact h9
        have z_2 : wo.cell? ⟨b1, o1 + 2, none⟩ = some (.slice tb tn tc) := by have h9 := e_2; rw [Nat.zero_mul, Nat.add_zero] at h9; exact h9
        clear e_0 e_1 e_2
        have HA1 : Hid (dbFrom none x = (v && dbFrom (prevN x (0 + 1)) (x.drop (0 + 1)))) := Lib.hid (by rw [HA.out, HP.out]; simp [prevN])
        clear hx HA HP t1
        cases v with
        | true =>
          have HE : Hid (dbFrom none x = dbFrom (prevN x (0 + 1)) (x.drop (0 + 1))) := Lib.hid (by rw [HA1.out]; rfl)
          obtain ⟨w3, hw3⟩ : ∃ W, W = wo.alloc (.cells #[.string s, .int .i64 i, .slice tb tn tc] 34) := ⟨_, rfl⟩
          have z3 : Below wo.heap.size wo w3 := by rw [hw3]; exact (Below.refl _ _).alloc (Nat.le_refl _) _
          have s3 : w3.heap.size = wo.heap.size + 1 := by rw [hw3]; simp
          have hb3 := on hb2 z3
          have old3_b_0 := b_0
          have old3_z_0 := z_0
          have old3_z_1 := z_1
          have old3_z_2 := z_2
          replace b_0 := (z3.cell (p := ⟨w.heap.size, 0, none⟩) (by simp only []; omega)).trans b_0
          replace hlc := on hlc z3
          replace z_0 := (z3.cell (p := ⟨b1, o1, none⟩) (by simp only []; omega)).trans z_0
          replace z_1 := (z3.cell (p := ⟨b1, o1 + 1, none⟩) (by simp only []; omega)).trans z_1
          replace z_2 := (z3.cell (p := ⟨b1, o1 + 2, none⟩) (by simp only []; omega)).trans z_2
          have p_0 : w3.cell? ⟨wo.heap.size, 0, none⟩ = some (.string s) := by rw [hw3]; exact box_cell (Below.refl _ _) rfl
          have p_1 : w3.cell? ⟨wo.heap.size, 1, none⟩ = some (.int .i64 i) := by rw [hw3]; exact box_cell (Below.refl _ _) rfl
          have p_2 : w3.cell? ⟨wo.heap.size, 2, none⟩ = some (.slice tb tn tc) := by rw [hw3]; exact box_cell (Below.refl _ _) rfl
          have raw3_b_0 := b_0
          have raw3_z_0 := z_0
          have raw3_z_1 := z_1
          have raw3_z_2 := z_2
          have raw3_p_0 := p_0
          have raw3_p_1 := p_1
          have raw3_p_2 := p_2
          rw [hw3] at raw3_b_0 raw3_z_0 raw3_z_1 raw3_z_2 raw3_p_0 raw3_p_1 raw3_p_2
          go_wp2_with fail
          rw [← hw3]
          clear hw3
          clear old3_b_0 old3_z_0 old3_z_1 old3_z_2 raw3_b_0 raw3_z_0 raw3_z_1 raw3_z_2 raw3_p_0 raw3_p_1 raw3_p_2
          have rg_b_0 := cell_regrown b_0
          have rg_z_0 := cell_regrown z_0
          have rg_z_1 := cell_regrown z_1
          have rg_z_2 := cell_regrown z_2
          have rg_p_0 := cell_regrown p_0
          have rg_p_1 := cell_regrown p_1
          have rg_p_2 := cell_regrown p_2
          refine wp_region_quiet_below (by kernel_rfl) (by kernel_rfl) ?_
          repeat (go_big_quiet_step ((first | (go_at_call 137; exact Calls.regrown_of (HC.out _ (on hb3 (below_regrown _ _ _)))))))
          refine wpQuiet_nil ?_
          intro w4 hw4
          have z4 : Below w3.heap.size w3 w4 := by obtain ⟨p9, e9⟩ := hw4; rw [e9]; exact below_regrown _ _ _
          clear hw4 rg_b_0 rg_z_0 rg_z_1 rg_z_2 rg_p_0 rg_p_1 rg_p_2
          have s5 := z4.size
          have hb5 := on hb3 z4
          replace b_0 := (z4.cell (p := ⟨w.heap.size, 0, none⟩) (by simp only []; omega)).trans b_0
          replace hlc := on hlc z4
          replace z_0 := (z4.cell (p := ⟨b1, o1, none⟩) (by simp only []; omega)).trans z_0
          replace z_1 := (z4.cell (p := ⟨b1, o1 + 1, none⟩) (by simp only []; omega)).trans z_1
          replace z_2 := (z4.cell (p := ⟨b1, o1 + 2, none⟩) (by simp only []; omega)).trans z_2
          replace p_0 := (z4.cell (p := ⟨wo.heap.size, 0, none⟩) (by simp only []; omega)).trans p_0
          replace p_1 := (z4.cell (p := ⟨wo.heap.size, 1, none⟩) (by simp only []; omega)).trans p_1
          replace p_2 := (z4.cell (p := ⟨wo.heap.size, 2, none⟩) (by simp only []; omega)).trans p_2
          go_wp2_with fail
          go_roundw
          case rel => exact ⟨1, by omega, rfl, HE.out, hlc⟩
          case measure => simp [intOf]; omega
        | false =>
          have HE := Lib.hid (validDb_no (db := x) (by rw [HA1.out]; rfl))
          obtain ⟨w6, hw6⟩ : ∃ W, W = wo.alloc (.cells #[.string s, .int .i64 i, .slice tb tn tc] 34) := ⟨_, rfl⟩
          have z6 : Below wo.heap.size wo w6 := by rw [hw6]; exact (Below.refl _ _).alloc (Nat.le_refl _) _
          have s6 : w6.heap.size = wo.heap.size + 1 := by rw [hw6]; simp
          have hb6 := on hb2 z6
          have old6_b_0 := b_0
          have old6_z_0 := z_0
          have old6_z_1 := z_1
          have old6_z_2 := z_2
          replace b_0 := (z6.cell (p := ⟨w.heap.size, 0, none⟩) (by simp only []; omega)).trans b_0
          replace hlc := on hlc z6
          replace z_0 := (z6.cell (p := ⟨b1, o1, none⟩) (by simp only []; omega)).trans z_0
          replace z_1 := (z6.cell (p := ⟨b1, o1 + 1, none⟩) (by simp only []; omega)).trans z_1
          replace z_2 := (z6.cell (p := ⟨b1, o1 + 2, none⟩) (by simp only []; omega)).trans z_2
          have p_0 : w6.cell? ⟨wo.heap.size, 0, none⟩ = some (.string s) := by rw [hw6]; exact box_cell (Below.refl _ _) rfl
          have p_1 : w6.cell? ⟨wo.heap.size, 1, none⟩ = some (.int .i64 i) := by rw [hw6]; exact box_cell (Below.refl _ _) rfl
          have p_2 : w6.cell? ⟨wo.heap.size, 2, none⟩ = some (.slice tb tn tc) := by rw [hw6]; exact box_cell (Below.refl _ _) rfl
          have raw6_b_0 := b_0
          have raw6_z_0 := z_0
          have raw6_z_1 := z_1
          have raw6_z_2 := z_2
          have raw6_p_0 := p_0
          have raw6_p_1 := p_1
          have raw6_p_2 := p_2
          rw [hw6] at raw6_b_0 raw6_z_0 raw6_z_1 raw6_z_2 raw6_p_0 raw6_p_1 raw6_p_2
          go_wp2_with fail
          rw [← hw6]
          clear hw6
          clear old6_b_0 old6_z_0 old6_z_1 old6_z_2 raw6_b_0 raw6_z_0 raw6_z_1 raw6_z_2 raw6_p_0 raw6_p_1 raw6_p_2
          have rg_b_0 := cell_regrown b_0
          have rg_z_0 := cell_regrown z_0
          have rg_z_1 := cell_regrown z_1
          have rg_z_2 := cell_regrown z_2
          have rg_p_0 := cell_regrown p_0
          have rg_p_1 := cell_regrown p_1
          have rg_p_2 := cell_regrown p_2
          refine wp_region_quiet_below (by kernel_rfl) (by kernel_rfl) ?_
          repeat (go_big_quiet_step ((first | (go_at_call 137; exact Calls.regrown_of (HC.out _ (on hb6 (below_regrown _ _ _)))))))
          refine wpQuiet_nil ?_
          intro w7 hw7
          have z7 : Below w6.heap.size w6 w7 := by obtain ⟨p9, e9⟩ := hw7; rw [e9]; exact below_regrown _ _ _
          clear hw7 rg_b_0 rg_z_0 rg_z_1 rg_z_2 rg_p_0 rg_p_1 rg_p_2
          have s8 := z7.size
          have hb8 := on hb6 z7
          replace b_0 := (z7.cell (p := ⟨w.heap.size, 0, none⟩) (by simp only []; omega)).trans b_0
          replace hlc := on hlc z7
          replace z_0 := (z7.cell (p := ⟨b1, o1, none⟩) (by simp only []; omega)).trans z_0
          replace z_1 := (z7.cell (p := ⟨b1, o1 + 1, none⟩) (by simp only []; omega)).trans z_1
          replace z_2 := (z7.cell (p := ⟨b1, o1 + 2, none⟩) (by simp only []; omega)).trans z_2
          replace p_0 := (z7.cell (p := ⟨wo.heap.size, 0, none⟩) (by simp only []; omega)).trans p_0
          replace p_1 := (z7.cell (p := ⟨wo.heap.size, 1, none⟩) (by simp only []; omega)).trans p_1
          replace p_2 := (z7.cell (p := ⟨wo.heap.size, 2, none⟩) (by simp only []; omega)).trans p_2
          go_wp2_with fail
          go_ret
          exact ⟨ret_bool HE.out.symm, hb8⟩
      obtain ⟨l, rfl⟩ : ∃ l, j = l + 1 := ⟨j - 1, by omega⟩
      obtain ⟨b9, o9, cs, t, hb9, hy, hr, hc⟩ := t1.at (show l < un by omega)
      simp at hb9
      obtain ⟨rfl, rfl⟩ := hb9
      have HP2 := Lib.hid (prevN_at hy.out)
      obtain ⟨s2, i2, rows2⟩ := t
      obtain ⟨tb2, tn2, tc2, rfl, hs2, hi2, g2⟩ := rT_open hr
      simp only at HP2
      have f_lt : b1 < w.heap.size := cell_lt (hc 0 _ rfl)
      have f_0 : wo.cell? ⟨b1, o1 + l * 3, none⟩ = some (.string s2) := (hb2.cell (p := ⟨b1, o1 + l * 3, none⟩) f_lt).trans (by have h9 := hc 0 _ rfl; rw [← Nat.add_assoc] at h9; exact h9)
      have f_1 : wo.cell? ⟨b1, o1 + l * 3 + 1, none⟩ = some (.int .i64 i2) := (hb2.cell (p := ⟨b1, o1 + l * 3 + 1, none⟩) f_lt).trans (by have h9 := hc 1 _ rfl; rw [← Nat.add_assoc] at h9; exact h9)
      have f_2 : wo.cell? ⟨b1, o1 + l * 3 + 2, none⟩ = some (.slice tb2 tn2 tc2) := (hb2.cell (p := ⟨b1, o1 + l * 3 + 2, none⟩) f_lt).trans (by have h9 := hc 2 _ rfl; rw [← Nat.add_assoc] at h9; exact h9)
      have HA1 : Hid (dbFrom none x = (v && (ltB s2 s && dbFrom (prevN x (l + 1 + 1)) (x.drop (l + 1 + 1))))) := Lib.hid (by rw [HA.out, HP.out, HP2.out])
      clear hx hy HA HP HP2 t1 hc hr g2 hj0
      obtain ⟨q, hq⟩ : ∃ q, q = ltB s2 s := ⟨_, rfl⟩
      rw [← hq] at HA1
      have hq2 : Op.bytesLess s2.toList s.toList = q := hq.symm
      clear hq
      have hi63 : IntKind.i64.wrap (l : Int) = (l : Int) := IntWalk.i64_in _ (by omega)
      cases v with
      | false =>
        have HE := Lib.hid (validDb_no (db := x) (by rw [HA1.out]; rfl))
        obtain ⟨w9, hw9⟩ : ∃ W, W = wo.alloc (.cells #[.string s, .int .i64 i, .slice tb tn tc] 34) := ⟨_, rfl⟩
        have z9 : Below wo.heap.size wo w9 := by rw [hw9]; exact (Below.refl _ _).alloc (Nat.le_refl _) _
        have s9 : w9.heap.size = wo.heap.size + 1 := by rw [hw9]; simp
        have hb9 := on hb2 z9
        have old9_b_0 := b_0
        have old9_e_0 := e_0
        have old9_e_1 := e_1
        have old9_e_2 := e_2
        have old9_f_0 := f_0
        have old9_f_1 := f_1
        have old9_f_2 := f_2
        replace b_0 := (z9.cell (p := ⟨w.heap.size, 0, none⟩) (by simp only []; omega)).trans b_0
        replace hlc := on hlc z9
        replace e_0 := (z9.cell (p := ⟨b1, o1 + (l + 1) * 3, none⟩) (by simp only []; omega)).trans e_0
        replace e_1 := (z9.cell (p := ⟨b1, o1 + (l + 1) * 3 + 1, none⟩) (by simp only []; omega)).trans e_1
        replace e_2 := (z9.cell (p := ⟨b1, o1 + (l + 1) * 3 + 2, none⟩) (by simp only []; omega)).trans e_2
        replace f_0 := (z9.cell (p := ⟨b1, o1 + l * 3, none⟩) (by simp only []; omega)).trans f_0
        replace f_1 := (z9.cell (p := ⟨b1, o1 + l * 3 + 1, none⟩) (by simp only []; omega)).trans f_1
        replace f_2 := (z9.cell (p := ⟨b1, o1 + l * 3 + 2, none⟩) (by simp only []; omega)).trans f_2
        have p_0 : w9.cell? ⟨wo.heap.size, 0, none⟩ = some (.string s) := by rw [hw9]; exact box_cell (Below.refl _ _) rfl
        have p_1 : w9.cell? ⟨wo.heap.size, 1, none⟩ = some (.int .i64 i) := by rw [hw9]; exact box_cell (Below.refl _ _) rfl
        have p_2 : w9.cell? ⟨wo.heap.size, 2, none⟩ = some (.slice tb tn tc) := by rw [hw9]; exact box_cell (Below.refl _ _) rfl
        have raw9_b_0 := b_0
        have raw9_e_0 := e_0
        have raw9_e_1 := e_1
        have raw9_e_2 := e_2
        have raw9_f_0 := f_0
        have raw9_f_1 := f_1
        have raw9_f_2 := f_2
        have raw9_p_0 := p_0
        have raw9_p_1 := p_1
        have raw9_p_2 := p_2
        rw [hw9] at raw9_b_0 raw9_e_0 raw9_e_1 raw9_e_2 raw9_f_0 raw9_f_1 raw9_f_2 raw9_p_0 raw9_p_1 raw9_p_2
        go_wp2_with fail
        rw [← hw9]
        clear hw9
        clear old9_b_0 old9_e_0 old9_e_1 old9_e_2 old9_f_0 old9_f_1 old9_f_2 raw9_b_0 raw9_e_0 raw9_e_1 raw9_e_2 raw9_f_0 raw9_f_1 raw9_f_2 raw9_p_0 raw9_p_1 raw9_p_2
        have rg_b_0 := cell_regrown b_0
        have rg_e_0 := cell_regrown e_0
        have rg_e_1 := cell_regrown e_1
        have rg_e_2 := cell_regrown e_2
        have rg_f_0 := cell_regrown f_0
        have rg_f_1 := cell_regrown f_1
        have rg_f_2 := cell_regrown f_2
        have rg_p_0 := cell_regrown p_0
        have rg_p_1 := cell_regrown p_1
        have rg_p_2 := cell_regrown p_2
        refine wp_region_quiet_below (by kernel_rfl) (by kernel_rfl) ?_
        repeat (go_big_quiet_step ((first | (go_at_call 137; exact Calls.regrown_of (HC.out _ (on hb9 (below_regrown _ _ _)))))))
        refine wpQuiet_nil ?_
        intro w10 hw10
        have z10 : Below w9.heap.size w9 w10 := by obtain ⟨p9, e9⟩ := hw10; rw [e9]; exact below_regrown _ _ _
        clear hw10 rg_b_0 rg_e_0 rg_e_1 rg_e_2 rg_f_0 rg_f_1 rg_f_2 rg_p_0 rg_p_1 rg_p_2
        have s11 := z10.size
        have hb11 := on hb9 z10
        replace b_0 := (z10.cell (p := ⟨w.heap.size, 0, none⟩) (by simp only []; omega)).trans b_0
        replace hlc := on hlc z10
        replace e_0 := (z10.cell (p := ⟨b1, o1 + (l + 1) * 3, none⟩) (by simp only []; omega)).trans e_0
        replace e_1 := (z10.cell (p := ⟨b1, o1 + (l + 1) * 3 + 1, none⟩) (by simp only []; omega)).trans e_1
        replace e_2 := (z10.cell (p := ⟨b1, o1 + (l + 1) * 3 + 2, none⟩) (by simp only []; omega)).trans e_2
        replace f_0 := (z10.cell (p := ⟨b1, o1 + l * 3, none⟩) (by simp only []; omega)).trans f_0
        replace f_1 := (z10.cell (p := ⟨b1, o1 + l * 3 + 1, none⟩) (by simp only []; omega)).trans f_1
        replace f_2 := (z10.cell (p := ⟨b1, o1 + l * 3 + 2, none⟩) (by simp only []; omega)).trans f_2
        replace p_0 := (z10.cell (p := ⟨wo.heap.size, 0, none⟩) (by simp only []; omega)).trans p_0
        replace p_1 := (z10.cell (p := ⟨wo.heap.size, 1, none⟩) (by simp only []; omega)).trans p_1
        replace p_2 := (z10.cell (p := ⟨wo.heap.size, 2, none⟩) (by simp only []; omega)).trans p_2
        clear hi63
        go_wp2_with fail
        go_ret
        exact ⟨ret_bool HE.out.symm, hb11⟩
      | true =>
        cases q with
        | false =>
          have HE := Lib.hid (validDb_no (db := x) (by rw [HA1.out]; rfl))
          obtain ⟨w12, hw12⟩ : ∃ W, W = wo.alloc (.cells #[.string s, .int .i64 i, .slice tb tn tc] 34) := ⟨_, rfl⟩
          have z12 : Below wo.heap.size wo w12 := by rw [hw12]; exact (Below.refl _ _).alloc (Nat.le_refl _) _
          have s12 : w12.heap.size = wo.heap.size + 1 := by rw [hw12]; simp
          have hb12 := on hb2 z12
          have old12_b_0 := b_0
          have old12_e_0 := e_0
          have old12_e_1 := e_1
          have old12_e_2 := e_2
          have old12_f_0 := f_0
          have old12_f_1 := f_1
          have old12_f_2 := f_2
          replace b_0 := (z12.cell (p := ⟨w.heap.size, 0, none⟩) (by simp only []; omega)).trans b_0
          replace hlc := on hlc z12
          replace e_0 := (z12.cell (p := ⟨b1, o1 + (l + 1) * 3, none⟩) (by simp only []; omega)).trans e_0
          replace e_1 := (z12.cell (p := ⟨b1, o1 + (l + 1) * 3 + 1, none⟩) (by simp only []; omega)).trans e_1
          replace e_2 := (z12.cell (p := ⟨b1, o1 + (l + 1) * 3 + 2, none⟩) (by simp only []; omega)).trans e_2
          replace f_0 := (z12.cell (p := ⟨b1, o1 + l * 3, none⟩) (by simp only []; omega)).trans f_0
          replace f_1 := (z12.cell (p := ⟨b1, o1 + l * 3 + 1, none⟩) (by simp only []; omega)).trans f_1
          replace f_2 := (z12.cell (p := ⟨b1, o1 + l * 3 + 2, none⟩) (by simp only []; omega)).trans f_2
          have p_0 : w12.cell? ⟨wo.heap.size, 0, none⟩ = some (.string s) := by rw [hw12]; exact box_cell (Below.refl _ _) rfl
          have p_1 : w12.cell? ⟨wo.heap.size, 1, none⟩ = some (.int .i64 i) := by rw [hw12]; exact box_cell (Below.refl _ _) rfl
          have p_2 : w12.cell? ⟨wo.heap.size, 2, none⟩ = some (.slice tb tn tc) := by rw [hw12]; exact box_cell (Below.refl _ _) rfl
          have raw12_b_0 := b_0
          have raw12_e_0 := e_0
          have raw12_e_1 := e_1
          have raw12_e_2 := e_2
          have raw12_f_0 := f_0
          have raw12_f_1 := f_1
          have raw12_f_2 := f_2
          have raw12_p_0 := p_0
          have raw12_p_1 := p_1
          have raw12_p_2 := p_2
          rw [hw12] at raw12_b_0 raw12_e_0 raw12_e_1 raw12_e_2 raw12_f_0 raw12_f_1 raw12_f_2 raw12_p_0 raw12_p_1 raw12_p_2
          go_wp2_with fail
          rw [← hw12]
          clear hw12
          clear old12_b_0 old12_e_0 old12_e_1 old12_e_2 old12_f_0 old12_f_1 old12_f_2 raw12_b_0 raw12_e_0 raw12_e_1 raw12_e_2 raw12_f_0 raw12_f_1 raw12_f_2 raw12_p_0 raw12_p_1 raw12_p_2
          have rg_b_0 := cell_regrown b_0
          have rg_e_0 := cell_regrown e_0
          have rg_e_1 := cell_regrown e_1
          have rg_e_2 := cell_regrown e_2
          have rg_f_0 := cell_regrown f_0
          have rg_f_1 := cell_regrown f_1
          have rg_f_2 := cell_regrown f_2
          have rg_p_0 := cell_regrown p_0
          have rg_p_1 := cell_regrown p_1
          have rg_p_2 := cell_regrown p_2
          refine wp_region_quiet_below (by kernel_rfl) (by kernel_rfl) ?_
          repeat (go_big_quiet_step ((first | (go_at_call 137; exact Calls.regrown_of (HC.out _ (on hb12 (below_regrown _ _ _)))))))
          refine wpQuiet_nil ?_
          intro w13 hw13
          have z13 : Below w12.heap.size w12 w13 := by obtain ⟨p9, e9⟩ := hw13; rw [e9]; exact below_regrown _ _ _
          clear hw13 rg_b_0 rg_e_0 rg_e_1 rg_e_2 rg_f_0 rg_f_1 rg_f_2 rg_p_0 rg_p_1 rg_p_2
          have s14 := z13.size
          have hb14 := on hb12 z13
          replace b_0 := (z13.cell (p := ⟨w.heap.size, 0, none⟩) (by simp only []; omega)).trans b_0
          replace hlc := on hlc z13
          replace e_0 := (z13.cell (p := ⟨b1, o1 + (l + 1) * 3, none⟩) (by simp only []; omega)).trans e_0
          replace e_1 := (z13.cell (p := ⟨b1, o1 + (l + 1) * 3 + 1, none⟩) (by simp only []; omega)).trans e_1
          replace e_2 := (z13.cell (p := ⟨b1, o1 + (l + 1) * 3 + 2, none⟩) (by simp only []; omega)).trans e_2
          replace f_0 := (z13.cell (p := ⟨b1, o1 + l * 3, none⟩) (by simp only []; omega)).trans f_0
          replace f_1 := (z13.cell (p := ⟨b1, o1 + l * 3 + 1, none⟩) (by simp only []; omega)).trans f_1
          replace f_2 := (z13.cell (p := ⟨b1, o1 + l * 3 + 2, none⟩) (by simp only []; omega)).trans f_2
          replace p_0 := (z13.cell (p := ⟨wo.heap.size, 0, none⟩) (by simp only []; omega)).trans p_0
          replace p_1 := (z13.cell (p := ⟨wo.heap.size, 1, none⟩) (by simp only []; omega)).trans p_1
          replace p_2 := (z13.cell (p := ⟨wo.heap.size, 2, none⟩) (by simp only []; omega)).trans p_2
          clear hi63
          go_wp2_with fail
          go_ret
          exact ⟨ret_bool HE.out.symm, hb14⟩
        | true =>
          have HE : Hid (dbFrom none x = dbFrom (prevN x (l + 1 + 1)) (x.drop (l + 1 + 1))) := Lib.hid (by rw [HA1.out]; rfl)
          obtain ⟨w15, hw15⟩ : ∃ W, W = wo.alloc (.cells #[.string s, .int .i64 i, .slice tb tn tc] 34) := ⟨_, rfl⟩
          have z15 : Below wo.heap.size wo w15 := by rw [hw15]; exact (Below.refl _ _).alloc (Nat.le_refl _) _
          have s15 : w15.heap.size = wo.heap.size + 1 := by rw [hw15]; simp
          have hb15 := on hb2 z15
          have old15_b_0 := b_0
          have old15_e_0 := e_0
          have old15_e_1 := e_1
          have old15_e_2 := e_2
          have old15_f_0 := f_0
          have old15_f_1 := f_1
          have old15_f_2 := f_2
          replace b_0 := (z15.cell (p := ⟨w.heap.size, 0, none⟩) (by simp only []; omega)).trans b_0
          replace hlc := on hlc z15
          replace e_0 := (z15.cell (p := ⟨b1, o1 + (l + 1) * 3, none⟩) (by simp only []; omega)).trans e_0
          replace e_1 := (z15.cell (p := ⟨b1, o1 + (l + 1) * 3 + 1, none⟩) (by simp only []; omega)).trans e_1
          replace e_2 := (z15.cell (p := ⟨b1, o1 + (l + 1) * 3 + 2, none⟩) (by simp only []; omega)).trans e_2
          replace f_0 := (z15.cell (p := ⟨b1, o1 + l * 3, none⟩) (by simp only []; omega)).trans f_0
          replace f_1 := (z15.cell (p := ⟨b1, o1 + l * 3 + 1, none⟩) (by simp only []; omega)).trans f_1
          replace f_2 := (z15.cell (p := ⟨b1, o1 + l * 3 + 2, none⟩) (by simp only []; omega)).trans f_2
          have p_0 : w15.cell? ⟨wo.heap.size, 0, none⟩ = some (.string s) := by rw [hw15]; exact box_cell (Below.refl _ _) rfl
          have p_1 : w15.cell? ⟨wo.heap.size, 1, none⟩ = some (.int .i64 i) := by rw [hw15]; exact box_cell (Below.refl _ _) rfl
          have p_2 : w15.cell? ⟨wo.heap.size, 2, none⟩ = some (.slice tb tn tc) := by rw [hw15]; exact box_cell (Below.refl _ _) rfl
          have raw15_b_0 := b_0
          have raw15_e_0 := e_0
          have raw15_e_1 := e_1
          have raw15_e_2 := e_2
          have raw15_f_0 := f_0
          have raw15_f_1 := f_1
          have raw15_f_2 := f_2
          have raw15_p_0 := p_0
          have raw15_p_1 := p_1
          have raw15_p_2 := p_2
          rw [hw15] at raw15_b_0 raw15_e_0 raw15_e_1 raw15_e_2 raw15_f_0 raw15_f_1 raw15_f_2 raw15_p_0 raw15_p_1 raw15_p_2
          go_wp2_with fail
          rw [← hw15]
          clear hw15
          clear old15_b_0 old15_e_0 old15_e_1 old15_e_2 old15_f_0 old15_f_1 old15_f_2 raw15_b_0 raw15_e_0 raw15_e_1 raw15_e_2 raw15_f_0 raw15_f_1 raw15_f_2 raw15_p_0 raw15_p_1 raw15_p_2
          have rg_b_0 := cell_regrown b_0
          have rg_e_0 := cell_regrown e_0
          have rg_e_1 := cell_regrown e_1
          have rg_e_2 := cell_regrown e_2
          have rg_f_0 := cell_regrown f_0
          have rg_f_1 := cell_regrown f_1
          have rg_f_2 := cell_regrown f_2
          have rg_p_0 := cell_regrown p_0
          have rg_p_1 := cell_regrown p_1
          have rg_p_2 := cell_regrown p_2
          refine wp_region_quiet_below (by kernel_rfl) (by kernel_rfl) ?_
          repeat (go_big_quiet_step ((first | (go_at_call 137; exact Calls.regrown_of (HC.out _ (on hb15 (below_regrown _ _ _)))))))
          refine wpQuiet_nil ?_
          intro w16 hw16
          have z16 : Below w15.heap.size w15 w16 := by obtain ⟨p9, e9⟩ := hw16; rw [e9]; exact below_regrown _ _ _
          clear hw16 rg_b_0 rg_e_0 rg_e_1 rg_e_2 rg_f_0 rg_f_1 rg_f_2 rg_p_0 rg_p_1 rg_p_2
          have s17 := z16.size
          have hb17 := on hb15 z16
          replace b_0 := (z16.cell (p := ⟨w.heap.size, 0, none⟩) (by simp only []; omega)).trans b_0
          replace hlc := on hlc z16
          replace e_0 := (z16.cell (p := ⟨b1, o1 + (l + 1) * 3, none⟩) (by simp only []; omega)).trans e_0
          replace e_1 := (z16.cell (p := ⟨b1, o1 + (l + 1) * 3 + 1, none⟩) (by simp only []; omega)).trans e_1
          replace e_2 := (z16.cell (p := ⟨b1, o1 + (l + 1) * 3 + 2, none⟩) (by simp only []; omega)).trans e_2
          replace f_0 := (z16.cell (p := ⟨b1, o1 + l * 3, none⟩) (by simp only []; omega)).trans f_0
          replace f_1 := (z16.cell (p := ⟨b1, o1 + l * 3 + 1, none⟩) (by simp only []; omega)).trans f_1
          replace f_2 := (z16.cell (p := ⟨b1, o1 + l * 3 + 2, none⟩) (by simp only []; omega)).trans f_2
          replace p_0 := (z16.cell (p := ⟨wo.heap.size, 0, none⟩) (by simp only []; omega)).trans p_0
          replace p_1 := (z16.cell (p := ⟨wo.heap.size, 1, none⟩) (by simp only []; omega)).trans p_1
          replace p_2 := (z16.cell (p := ⟨wo.heap.size, 2, none⟩) (by simp only []; omega)).trans p_2
          clear hi63
          go_wp2_with fail
          go_roundw
          case rel => exact ⟨l + 1 + 1, by omega, by go_num, HE.out, hlc⟩
          case measure => simp [intOf]; omega
    · have HE := Lib.hid (validDb_len HL.out (hE.out.trans (dbFrom_end (by have := HL.out; omega))))
      clear t1 hl hE HV
      go_wp2_with fail
      go_ret
      exact ⟨ret_bool (by rw [HE.out]), hb2⟩

set_option maxHeartbeats 4000000 in
theorem validDb_spec (cs : List Value) (x : DDb) (w : World) (h : rDb.rep w cs x) :
    Calls Try.prog 192 #[.agg cs.toArray] w fun e w' => e = .returned (.bool (validDb x)) ∧ Below w.heap.size w w' := by
  obtain ⟨ub, un, uc, rfl, g1⟩ := rDb_open h
  clear h
  have t1 := rS_sl g1
  have hl := t1.len
  have hn := t1.small
  have HV : Hid (dbFrom none x = dbFrom (prevN x 0) (x.drop 0)) := rfl
  have HL := Lib.hid hl
  have hb0 : Below w.heap.size w w := Below.refl _ _
  go_enter Try.func192, Try.ntmps192
  obtain ⟨w1, hw1⟩ : ∃ W, W = w.alloc (.cells #[.slice ub un uc] 89) := ⟨_, rfl⟩
  have z1 : Below w.heap.size w w1 := by rw [hw1]; exact (Below.refl _ _).alloc (Nat.le_refl _) _
  have s1 : w1.heap.size = w.heap.size + 1 := by rw [hw1]; simp
  have hb1 := on hb0 z1
  have b_0 : w1.cell? ⟨w.heap.size, 0, none⟩ = some (.slice ub un uc) := by rw [hw1]; exact box_cell (Below.refl _ _) rfl
  have raw1_b_0 := b_0
  rw [hw1] at raw1_b_0
  go_wp2_with fail
  rw [← hw1]
  clear hw1
  clear raw1_b_0
  go_loopw [3] (fun k wr => ∃ j : Nat, j ≤ un ∧ k = .int .i64 j ∧ Hid (dbFrom none x = dbFrom (prevN x j) (x.drop j)) ∧ Below w1.heap.size w1 wr) (fun k _ => un - (intOf k).toNat)
  case atStart => exact ⟨0, Nat.zero_le _, rfl, HV.out, Below.refl _ _⟩
  case round =>
    obtain ⟨j, hj, rfl, hE, hdr⟩ := hrel
    obtain ⟨wo, rfl⟩ : ∃ W, W = wr := ⟨_, rfl⟩
    have hlc := hdr
    have s2 := hdr.size
    have hb2 := on hb1 hdr
    replace b_0 := (hdr.cell (p := ⟨w.heap.size, 0, none⟩) (by simp only []; omega)).trans b_0
    by_cases hlt : j < un
    · obtain ⟨b1, o1, cs, t, rfl, hx, hr, hc⟩ := t1.at hlt
      have HA := Lib.hid (hE.out.trans (dbFrom_at hx.out))
      have HP := Lib.hid (prevN_at hx.out)
      obtain ⟨s, i, rows⟩ := t
      obtain ⟨tb, tn, tc, rfl, hs, hi, g2⟩ := rT_open hr
      simp only at hs hi g2 HA HP
      have e_lt : b1 < w.heap.size := cell_lt (hc 0 _ rfl)
      have e_0 : wo.cell? ⟨b1, o1 + j * 3, none⟩ = some (.string s) := (hb2.cell (p := ⟨b1, o1 + j * 3, none⟩) e_lt).trans (by have h9 := hc 0 _ rfl; rw [← Nat.add_assoc] at h9; exact h9)
      have e_1 : wo.cell? ⟨b1, o1 + j * 3 + 1, none⟩ = some (.int .i64 i) := (hb2.cell (p := ⟨b1, o1 + j * 3 + 1, none⟩) e_lt).trans (by have h9 := hc 1 _ rfl; rw [← Nat.add_assoc] at h9; exact h9)
      have e_2 : wo.cell? ⟨b1, o1 + j * 3 + 2, none⟩ = some (.slice tb tn tc) := (hb2.cell (p := ⟨b1, o1 + j * 3 + 2, none⟩) e_lt).trans (by have h9 := hc 2 _ rfl; rw [← Nat.add_assoc] at h9; exact h9)
      have hcall := fun W (hW : Below w.heap.size w W) => validT_spec [.string s, .int .i64 i, .slice tb tn tc] (s, i, rows) W (rT.mono hr hW)
      obtain ⟨v, hv⟩ : ∃ v, v = validT (s, i, rows) := ⟨_, rfl⟩
      rw [← hv] at hcall HA
      have HC := Lib.hid hcall
      clear hcall hv hE HV hc hr g2 hl
      by_cases hj0 : j = 0
      · subst hj0
        have z_0 : wo.cell? ⟨b1, o1, none⟩ = some (.string s) := by have h9 := e_0; rw [Nat.zero_mul, Nat.add_zero] at h9; exact h9
        have z_1 : wo.cell? ⟨b1, o1 + 1, none⟩ = some (.int .i64 i) := by have h9 := e_1; rw [Nat.zero_mul, Nat.add_zero] at h9; exact h9
        have z_2 : wo.cell? ⟨b1, o1 + 2, none⟩ = some (.slice tb tn tc) := by have h9 := e_2; rw [Nat.zero_mul, Nat.add_zero] at h9; exact h9
        clear e_0 e_1 e_2
        have HA1 : Hid (dbFrom none x = (v && dbFrom (prevN x (0 + 1)) (x.drop (0 + 1)))) := Lib.hid (by rw [HA.out, HP.out]; simp [prevN])
        clear hx HA HP t1
        cases v with
        | true =>
          have HE : Hid (dbFrom none x = dbFrom (prevN x (0 + 1)) (x.drop (0 + 1))) := Lib.hid (by rw [HA1.out]; rfl)
          go_wp2_with fail
          have rg_b_0 := cell_regrown b_0
          have rg_z_0 := cell_regrown z_0
          have rg_z_1 := cell_regrown z_1
          have rg_z_2 := cell_regrown z_2
          refine wp_region_quiet_below (by kernel_rfl) (by kernel_rfl) ?_
          repeat (go_big_quiet_step ((first | (go_at_call 27; exact Calls.regrown_of (HC.out _ (on hb2 (below_regrown _ _ _)))))))
          refine wpQuiet_nil ?_
          intro w3 hw3
          have z3 : Below wo.heap.size wo w3 := by obtain ⟨p9, e9⟩ := hw3; rw [e9]; exact below_regrown _ _ _
          clear hw3 rg_b_0 rg_z_0 rg_z_1 rg_z_2
          have s4 := z3.size
          have hb4 := on hb2 z3
          replace b_0 := (z3.cell (p := ⟨w.heap.size, 0, none⟩) (by simp only []; omega)).trans b_0
          replace hlc := on hlc z3
          replace z_0 := (z3.cell (p := ⟨b1, o1, none⟩) (by simp only []; omega)).trans z_0
          replace z_1 := (z3.cell (p := ⟨b1, o1 + 1, none⟩) (by simp only []; omega)).trans z_1
          replace z_2 := (z3.cell (p := ⟨b1, o1 + 2, none⟩) (by simp only []; omega)).trans z_2
          go_wp2_with fail
          go_roundw
          case rel => exact ⟨1, by omega, rfl, HE.out, hlc⟩
          case measure => simp [intOf]; omega
        | false =>
          have HE := Lib.hid (validDb_no (db := x) (by rw [HA1.out]; rfl))
          go_wp2_with fail
          have rg_b_0 := cell_regrown b_0
          have rg_z_0 := cell_regrown z_0
          have rg_z_1 := cell_regrown z_1
          have rg_z_2 := cell_regrown z_2
          refine wp_region_quiet_below (by kernel_rfl) (by kernel_rfl) ?_
          repeat (go_big_quiet_step ((first | (go_at_call 27; exact Calls.regrown_of (HC.out _ (on hb2 (below_regrown _ _ _)))))))
          refine wpQuiet_nil ?_
          intro w5 hw5
          have z5 : Below wo.heap.size wo w5 := by obtain ⟨p9, e9⟩ := hw5; rw [e9]; exact below_regrown _ _ _
          clear hw5 rg_b_0 rg_z_0 rg_z_1 rg_z_2
          have s6 := z5.size
          have hb6 := on hb2 z5
          replace b_0 := (z5.cell (p := ⟨w.heap.size, 0, none⟩) (by simp only []; omega)).trans b_0
          replace hlc := on hlc z5
          replace z_0 := (z5.cell (p := ⟨b1, o1, none⟩) (by simp only []; omega)).trans z_0
          replace z_1 := (z5.cell (p := ⟨b1, o1 + 1, none⟩) (by simp only []; omega)).trans z_1
          replace z_2 := (z5.cell (p := ⟨b1, o1 + 2, none⟩) (by simp only []; omega)).trans z_2
          go_wp2_with fail
          go_ret
          exact ⟨ret_bool HE.out.symm, hb6⟩
      obtain ⟨l, rfl⟩ : ∃ l, j = l + 1 := ⟨j - 1, by omega⟩
      obtain ⟨b9, o9, cs, t, hb9, hy, hr, hc⟩ := t1.at (show l < un by omega)
      simp at hb9
      obtain ⟨rfl, rfl⟩ := hb9
      have HP2 := Lib.hid (prevN_at hy.out)
      obtain ⟨s2, i2, rows2⟩ := t
      obtain ⟨tb2, tn2, tc2, rfl, hs2, hi2, g2⟩ := rT_open hr
      simp only at HP2
      have f_lt : b1 < w.heap.size := cell_lt (hc 0 _ rfl)
      have f_0 : wo.cell? ⟨b1, o1 + l * 3, none⟩ = some (.string s2) := (hb2.cell (p := ⟨b1, o1 + l * 3, none⟩) f_lt).trans (by have h9 := hc 0 _ rfl; rw [← Nat.add_assoc] at h9; exact h9)
      have f_1 : wo.cell? ⟨b1, o1 + l * 3 + 1, none⟩ = some (.int .i64 i2) := (hb2.cell (p := ⟨b1, o1 + l * 3 + 1, none⟩) f_lt).trans (by have h9 := hc 1 _ rfl; rw [← Nat.add_assoc] at h9; exact h9)
      have f_2 : wo.cell? ⟨b1, o1 + l * 3 + 2, none⟩ = some (.slice tb2 tn2 tc2) := (hb2.cell (p := ⟨b1, o1 + l * 3 + 2, none⟩) f_lt).trans (by have h9 := hc 2 _ rfl; rw [← Nat.add_assoc] at h9; exact h9)
      have HA1 : Hid (dbFrom none x = (v && (ltB s2 s && dbFrom (prevN x (l + 1 + 1)) (x.drop (l + 1 + 1))))) := Lib.hid (by rw [HA.out, HP.out, HP2.out])
      clear hx hy HA HP HP2 t1 hc hr g2 hj0
      obtain ⟨q, hq⟩ : ∃ q, q = ltB s2 s := ⟨_, rfl⟩
      rw [← hq] at HA1
      have hq2 : Op.bytesLess s2.toList s.toList = q := hq.symm
      clear hq
      have hi63 : IntKind.i64.wrap (l : Int) = (l : Int) := IntWalk.i64_in _ (by omega)
      cases v with
      | false =>
        have HE := Lib.hid (validDb_no (db := x) (by rw [HA1.out]; rfl))
        go_wp2_with fail
        have rg_b_0 := cell_regrown b_0
        have rg_e_0 := cell_regrown e_0
        have rg_e_1 := cell_regrown e_1
        have rg_e_2 := cell_regrown e_2
        have rg_f_0 := cell_regrown f_0
        have rg_f_1 := cell_regrown f_1
        have rg_f_2 := cell_regrown f_2
        refine wp_region_quiet_below (by kernel_rfl) (by kernel_rfl) ?_
        repeat (go_big_quiet_step ((first | (go_at_call 27; exact Calls.regrown_of (HC.out _ (on hb2 (below_regrown _ _ _)))))))
        refine wpQuiet_nil ?_
        intro w7 hw7
        have z7 : Below wo.heap.size wo w7 := by obtain ⟨p9, e9⟩ := hw7; rw [e9]; exact below_regrown _ _ _
        clear hw7 rg_b_0 rg_e_0 rg_e_1 rg_e_2 rg_f_0 rg_f_1 rg_f_2
        have s8 := z7.size
        have hb8 := on hb2 z7
        replace b_0 := (z7.cell (p := ⟨w.heap.size, 0, none⟩) (by simp only []; omega)).trans b_0
        replace hlc := on hlc z7
        replace e_0 := (z7.cell (p := ⟨b1, o1 + (l + 1) * 3, none⟩) (by simp only []; omega)).trans e_0
        replace e_1 := (z7.cell (p := ⟨b1, o1 + (l + 1) * 3 + 1, none⟩) (by simp only []; omega)).trans e_1
        replace e_2 := (z7.cell (p := ⟨b1, o1 + (l + 1) * 3 + 2, none⟩) (by simp only []; omega)).trans e_2
        replace f_0 := (z7.cell (p := ⟨b1, o1 + l * 3, none⟩) (by simp only []; omega)).trans f_0
        replace f_1 := (z7.cell (p := ⟨b1, o1 + l * 3 + 1, none⟩) (by simp only []; omega)).trans f_1
        replace f_2 := (z7.cell (p := ⟨b1, o1 + l * 3 + 2, none⟩) (by simp only []; omega)).trans f_2
        clear hi63
        go_wp2_with fail
        go_ret
        exact ⟨ret_bool HE.out.symm, hb8⟩
      | true =>
        cases q with
        | false =>
          have HE := Lib.hid (validDb_no (db := x) (by rw [HA1.out]; rfl))
          go_wp2_with fail
          have rg_b_0 := cell_regrown b_0
          have rg_e_0 := cell_regrown e_0
          have rg_e_1 := cell_regrown e_1
          have rg_e_2 := cell_regrown e_2
          have rg_f_0 := cell_regrown f_0
          have rg_f_1 := cell_regrown f_1
          have rg_f_2 := cell_regrown f_2
          refine wp_region_quiet_below (by kernel_rfl) (by kernel_rfl) ?_
          repeat (go_big_quiet_step ((first | (go_at_call 27; exact Calls.regrown_of (HC.out _ (on hb2 (below_regrown _ _ _)))))))
          refine wpQuiet_nil ?_
          intro w9 hw9
          have z9 : Below wo.heap.size wo w9 := by obtain ⟨p9, e9⟩ := hw9; rw [e9]; exact below_regrown _ _ _
          clear hw9 rg_b_0 rg_e_0 rg_e_1 rg_e_2 rg_f_0 rg_f_1 rg_f_2
          have s10 := z9.size
          have hb10 := on hb2 z9
          replace b_0 := (z9.cell (p := ⟨w.heap.size, 0, none⟩) (by simp only []; omega)).trans b_0
          replace hlc := on hlc z9
          replace e_0 := (z9.cell (p := ⟨b1, o1 + (l + 1) * 3, none⟩) (by simp only []; omega)).trans e_0
          replace e_1 := (z9.cell (p := ⟨b1, o1 + (l + 1) * 3 + 1, none⟩) (by simp only []; omega)).trans e_1
          replace e_2 := (z9.cell (p := ⟨b1, o1 + (l + 1) * 3 + 2, none⟩) (by simp only []; omega)).trans e_2
          replace f_0 := (z9.cell (p := ⟨b1, o1 + l * 3, none⟩) (by simp only []; omega)).trans f_0
          replace f_1 := (z9.cell (p := ⟨b1, o1 + l * 3 + 1, none⟩) (by simp only []; omega)).trans f_1
          replace f_2 := (z9.cell (p := ⟨b1, o1 + l * 3 + 2, none⟩) (by simp only []; omega)).trans f_2
          clear hi63
          go_wp2_with fail
          go_ret
          exact ⟨ret_bool HE.out.symm, hb10⟩
        | true =>
          have HE : Hid (dbFrom none x = dbFrom (prevN x (l + 1 + 1)) (x.drop (l + 1 + 1))) := Lib.hid (by rw [HA1.out]; rfl)
          go_wp2_with fail
          have rg_b_0 := cell_regrown b_0
          have rg_e_0 := cell_regrown e_0
          have rg_e_1 := cell_regrown e_1
          have rg_e_2 := cell_regrown e_2
          have rg_f_0 := cell_regrown f_0
          have rg_f_1 := cell_regrown f_1
          have rg_f_2 := cell_regrown f_2
          refine wp_region_quiet_below (by kernel_rfl) (by kernel_rfl) ?_
          repeat (go_big_quiet_step ((first | (go_at_call 27; exact Calls.regrown_of (HC.out _ (on hb2 (below_regrown _ _ _)))))))
          refine wpQuiet_nil ?_
          intro w11 hw11
          have z11 : Below wo.heap.size wo w11 := by obtain ⟨p9, e9⟩ := hw11; rw [e9]; exact below_regrown _ _ _
          clear hw11 rg_b_0 rg_e_0 rg_e_1 rg_e_2 rg_f_0 rg_f_1 rg_f_2
          have s12 := z11.size
          have hb12 := on hb2 z11
          replace b_0 := (z11.cell (p := ⟨w.heap.size, 0, none⟩) (by simp only []; omega)).trans b_0
          replace hlc := on hlc z11
          replace e_0 := (z11.cell (p := ⟨b1, o1 + (l + 1) * 3, none⟩) (by simp only []; omega)).trans e_0
          replace e_1 := (z11.cell (p := ⟨b1, o1 + (l + 1) * 3 + 1, none⟩) (by simp only []; omega)).trans e_1
          replace e_2 := (z11.cell (p := ⟨b1, o1 + (l + 1) * 3 + 2, none⟩) (by simp only []; omega)).trans e_2
          replace f_0 := (z11.cell (p := ⟨b1, o1 + l * 3, none⟩) (by simp only []; omega)).trans f_0
          replace f_1 := (z11.cell (p := ⟨b1, o1 + l * 3 + 1, none⟩) (by simp only []; omega)).trans f_1
          replace f_2 := (z11.cell (p := ⟨b1, o1 + l * 3 + 2, none⟩) (by simp only []; omega)).trans f_2
          clear hi63
          go_wp2_with fail
          go_roundw
          case rel => exact ⟨l + 1 + 1, by omega, by go_num, HE.out, hlc⟩
          case measure => simp [intOf]; omega
    · have HE := Lib.hid (validDb_len HL.out (hE.out.trans (dbFrom_end (by have := HL.out; omega))))
      clear t1 hl hE HV
      go_wp2_with fail
      go_ret
      exact ⟨ret_bool (by rw [HE.out]), hb2⟩

end Go.Proofs.Ytbkoddikfpkocaa

/- Contracts: data compared by the program. Written by a program. -/
namespace Go.Proofs.Ytbkoddikfpkocaa
open Go.RowKit
set_option linter.unusedVariables false
set_option linter.unusedSimpArgs false
set_option synthInstance.maxSize 2000
set_option synthInstance.maxHeartbeats 400000

set_option maxHeartbeats 2000000 in
theorem equalGs_any (cs ds : List Value) (x y : DGs) (w : World) (h : rGs.rep w cs x) (h' : rGs.rep w ds y) :
    Calls Try.prog 220 #[.agg cs.toArray, .agg ds.toArray] w fun e w' => e = .returned (.bool (decide (x = y))) ∧ Below w.heap.size w w' := by
  obtain ⟨ub0, un0, uc0, ub1, un1, uc1, ub2, un2, uc2, rfl, g0, g1, g2⟩ := rGs_open h
  obtain ⟨vb0, vn0, vc0, vb1, vn1, vc1, vb2, vn2, vc2, rfl, k0, k1, k2⟩ := rGs_open h'
  clear h h'
  have hb1 : Below w.heap.size w ((w.alloc (.cells #[.slice ub0 un0 uc0, .slice ub1 un1 uc1, .slice ub2 un2 uc2] 144)).alloc (.cells #[.slice vb0 vn0 vc0, .slice vb1 vn1 vc1, .slice vb2 vn2 vc2] 144)) := ((Below.refl _ _).alloc (Nat.le_refl _) _).alloc (by simp) _
  go_enter Try.func220, Try.ntmps220
  obtain ⟨w1, hw1⟩ : ∃ W, W = (w.alloc (.cells #[.slice ub0 un0 uc0, .slice ub1 un1 uc1, .slice ub2 un2 uc2] 144)).alloc (.cells #[.slice vb0 vn0 vc0, .slice vb1 vn1 vc1, .slice vb2 vn2 vc2] 144) := ⟨_, rfl⟩
  have s1 : w1.heap.size = w.heap.size + 1 + 1 := by rw [hw1]; simp
  rw [← hw1] at hb1
  have bc_0 : w1.cell? ⟨w.heap.size, 0, none⟩ = some (.slice ub0 un0 uc0) := by rw [hw1]; simp [go_sem, World.cell?_alloc_past]
  have bd_0 : w1.cell? ⟨w.heap.size + 1, 0, none⟩ = some (.slice vb0 vn0 vc0) := by rw [hw1]; simp [go_sem, World.cell?_alloc_past]
  have bc_1 : w1.cell? ⟨w.heap.size, 1, none⟩ = some (.slice ub1 un1 uc1) := by rw [hw1]; simp [go_sem, World.cell?_alloc_past]
  have bd_1 : w1.cell? ⟨w.heap.size + 1, 1, none⟩ = some (.slice vb1 vn1 vc1) := by rw [hw1]; simp [go_sem, World.cell?_alloc_past]
  have bc_2 : w1.cell? ⟨w.heap.size, 2, none⟩ = some (.slice ub2 un2 uc2) := by rw [hw1]; simp [go_sem, World.cell?_alloc_past]
  have bd_2 : w1.cell? ⟨w.heap.size + 1, 2, none⟩ = some (.slice vb2 vn2 vc2) := by rw [hw1]; simp [go_sem, World.cell?_alloc_past]
  go_wp2_with fail
  rw [← hw1]
  clear hw1
  refine (equalInts_K _ _ (x.1) (y.1) _ (rI.mono g0 hb1) (rI.mono k0 hb1)).mono ?_
  rintro e w2 ⟨rfl, z2⟩
  have s2 := z2.size
  have hb2 := on hb1 z2
  replace bc_0 := (z2.cell (p := ⟨w.heap.size, 0, none⟩) (by simp only []; omega)).trans bc_0
  replace bd_0 := (z2.cell (p := ⟨w.heap.size + 1, 0, none⟩) (by simp only []; omega)).trans bd_0
  replace bc_1 := (z2.cell (p := ⟨w.heap.size, 1, none⟩) (by simp only []; omega)).trans bc_1
  replace bd_1 := (z2.cell (p := ⟨w.heap.size + 1, 1, none⟩) (by simp only []; omega)).trans bd_1
  replace bc_2 := (z2.cell (p := ⟨w.heap.size, 2, none⟩) (by simp only []; omega)).trans bc_2
  replace bd_2 := (z2.cell (p := ⟨w.heap.size + 1, 2, none⟩) (by simp only []; omega)).trans bd_2
  by_cases e0 : x.1 = y.1
  case neg =>
    have HE := Lib.hid (show decide (x = y) = false by simp only [decide_eq_false_iff_not]; intro h9; exact e0 (by rw [h9]))
    have hne : decide (x.1 = y.1) = false := by simpa using e0
    rw [hne]
    clear e0 hne
    go_wp2_with fail
    go_ret
    exact ⟨ret_bool HE.out.symm, hb2⟩
  have E0 := Lib.hid e0
  have hq0 : decide (x.1 = y.1) = true := by simpa using e0
  rw [hq0]
  clear e0 hq0
  go_wp2_with fail
  refine (equalRows_any _ _ (x.2.1) (y.2.1) _ (rII.mono g1 hb2) (rII.mono k1 hb2)).mono ?_
  rintro e w3 ⟨rfl, z3⟩
  have s3 := z3.size
  have hb3 := on hb2 z3
  replace bc_0 := (z3.cell (p := ⟨w.heap.size, 0, none⟩) (by simp only []; omega)).trans bc_0
  replace bd_0 := (z3.cell (p := ⟨w.heap.size + 1, 0, none⟩) (by simp only []; omega)).trans bd_0
  replace bc_1 := (z3.cell (p := ⟨w.heap.size, 1, none⟩) (by simp only []; omega)).trans bc_1
  replace bd_1 := (z3.cell (p := ⟨w.heap.size + 1, 1, none⟩) (by simp only []; omega)).trans bd_1
  replace bc_2 := (z3.cell (p := ⟨w.heap.size, 2, none⟩) (by simp only []; omega)).trans bc_2
  replace bd_2 := (z3.cell (p := ⟨w.heap.size + 1, 2, none⟩) (by simp only []; omega)).trans bd_2
  by_cases e1 : x.2.1 = y.2.1
  case neg =>
    have HE := Lib.hid (show decide (x = y) = false by simp only [decide_eq_false_iff_not]; intro h9; exact e1 (by rw [h9]))
    have hne : decide (x.2.1 = y.2.1) = false := by simpa using e1
    rw [hne]
    clear e1 hne
    go_wp2_with fail
    go_ret
    exact ⟨ret_bool HE.out.symm, hb3⟩
  have E1 := Lib.hid e1
  have hq1 : decide (x.2.1 = y.2.1) = true := by simpa using e1
  rw [hq1]
  clear e1 hq1
  go_wp2_with fail
  refine (equalInts_K _ _ (x.2.2) (y.2.2) _ (rI.mono g2 hb3) (rI.mono k2 hb3)).mono ?_
  rintro e w4 ⟨rfl, z4⟩
  have s4 := z4.size
  have hb4 := on hb3 z4
  replace bc_0 := (z4.cell (p := ⟨w.heap.size, 0, none⟩) (by simp only []; omega)).trans bc_0
  replace bd_0 := (z4.cell (p := ⟨w.heap.size + 1, 0, none⟩) (by simp only []; omega)).trans bd_0
  replace bc_1 := (z4.cell (p := ⟨w.heap.size, 1, none⟩) (by simp only []; omega)).trans bc_1
  replace bd_1 := (z4.cell (p := ⟨w.heap.size + 1, 1, none⟩) (by simp only []; omega)).trans bd_1
  replace bc_2 := (z4.cell (p := ⟨w.heap.size, 2, none⟩) (by simp only []; omega)).trans bc_2
  replace bd_2 := (z4.cell (p := ⟨w.heap.size + 1, 2, none⟩) (by simp only []; omega)).trans bd_2
  by_cases e2 : x.2.2 = y.2.2
  case neg =>
    have HE := Lib.hid (show decide (x = y) = false by simp only [decide_eq_false_iff_not]; intro h9; exact e2 (by rw [h9]))
    have hne : decide (x.2.2 = y.2.2) = false := by simpa using e2
    rw [hne]
    clear e2 hne
    go_wp2_with fail
    go_ret
    exact ⟨ret_bool HE.out.symm, hb4⟩
  have E2 := Lib.hid e2
  have hq2 : decide (x.2.2 = y.2.2) = true := by simpa using e2
  rw [hq2]
  clear e2 hq2
  have HE := Lib.hid (show decide (x = y) = true by simp only [decide_eq_true_eq]; exact Prod.ext E0.out (Prod.ext E1.out (E2.out)))
  go_wp2_with fail
  go_ret
  exact ⟨ret_bool HE.out.symm, hb4⟩

set_option maxHeartbeats 2000000 in
theorem equalFunc_Gl (u v : Value) (xs ys : List DGs) (w : World) (h : rGl.rep w [u] xs) (h' : rGl.rep w [v] ys) :
    Calls Try.prog 219 #[u, v, .func (Fn.func 220) #[] #[]] w fun e w' => e = .returned (.bool (decide (xs = ys))) ∧ Below w.heap.size w w' := by
  obtain ⟨a, cap, rfl, _, _, hi⟩ := rS_open h
  obtain ⟨a', cap', rfl, _, _, hi'⟩ := rS_open h'
  clear h h'
  have hn := hi.small
  have hn' := hi'.small
  obtain ⟨n, hl⟩ : ∃ n, xs.length = n := ⟨_, rfl⟩
  obtain ⟨m, hl'⟩ : ∃ n, ys.length = n := ⟨_, rfl⟩
  rw [hl] at hi hn ⊢
  rw [hl'] at hi' hn' ⊢
  by_cases hnm : n = m
  case neg =>
    have HE := Lib.hid (show decide (xs = ys) = false by simp only [decide_eq_false_iff_not]; intro e; subst e; omega)
    have hne : ((n : Int) != (m : Int)) = true := by rw [bne_iff_ne]; omega
    clear hl hl' hi hi'
    go_enter Try.func219, Try.ntmps219
    go_wp2_with fail
    go_ret
    exact ⟨ret_bool HE.out.symm, Below.refl _ _⟩
  subst hnm
  go_enter Try.func219, Try.ntmps219
  go_wp2_with fail
  go_loopw [7, 8, 17] (fun _ _ k wr => ∃ j : Nat, j ≤ n ∧ k = .int .i64 j ∧ Hid (xs.take j = ys.take j) ∧ Below w.heap.size w wr) (fun _ _ k _ => n - (intOf k).toNat)
  case atStart => exact ⟨0, Nat.zero_le _, rfl, rfl, Below.refl _ _⟩
  case round =>
    obtain ⟨j, hj, rfl, hE, hb⟩ := hrel
    by_cases hlt : j < n
    · obtain ⟨b, off, cs, x, rfl, hx, hr, hc⟩ := (hi.below hb).at hlt
      obtain ⟨b', off', ds, y, rfl, hy, hr', hd⟩ := (hi'.below hb).at hlt
      obtain ⟨ub0, un0, uc0, ub1, un1, uc1, ub2, un2, uc2, rfl⟩ := rGs_form hr
      obtain ⟨vb0, vn0, vc0, vb1, vn1, vc1, vb2, vn2, vc2, rfl⟩ := rGs_form hr'
      have c0 : wr.cell? ⟨b, off + j * 3, none⟩ = some (.slice ub0 un0 uc0) := by have h9 := hc 0 _ rfl; rw [← Nat.add_assoc] at h9; exact h9
      have c1 : wr.cell? ⟨b, off + j * 3 + 1, none⟩ = some (.slice ub1 un1 uc1) := by have h9 := hc 1 _ rfl; rw [← Nat.add_assoc] at h9; exact h9
      have c2 : wr.cell? ⟨b, off + j * 3 + 2, none⟩ = some (.slice ub2 un2 uc2) := by have h9 := hc 2 _ rfl; rw [← Nat.add_assoc] at h9; exact h9
      have d0 : wr.cell? ⟨b', off' + j * 3, none⟩ = some (.slice vb0 vn0 vc0) := by have h9 := hd 0 _ rfl; rw [← Nat.add_assoc] at h9; exact h9
      have d1 : wr.cell? ⟨b', off' + j * 3 + 1, none⟩ = some (.slice vb1 vn1 vc1) := by have h9 := hd 1 _ rfl; rw [← Nat.add_assoc] at h9; exact h9
      have d2 : wr.cell? ⟨b', off' + j * 3 + 2, none⟩ = some (.slice vb2 vn2 vc2) := by have h9 := hd 2 _ rfl; rw [← Nat.add_assoc] at h9; exact h9
      have hcall := fun (W : World) (hW : Below wr.heap.size wr W) => equalGs_any _ _ x y W (rGs.mono hr hW) (rGs.mono hr' hW)
      have lb' : b' < wr.heap.size := cell_lt d0
      have da0 : (wr.alloc (.cells #[.slice ub0 un0 uc0, .slice ub1 un1 uc1, .slice ub2 un2 uc2] 144)).cell? ⟨b', off' + j * 3, none⟩ = some (.slice vb0 vn0 vc0) := (((Below.refl _ _).alloc (Nat.le_refl _) _).cell (B := wr.heap.size) (p := ⟨b', off' + j * 3, none⟩) lb').trans d0
      have da1 : (wr.alloc (.cells #[.slice ub0 un0 uc0, .slice ub1 un1 uc1, .slice ub2 un2 uc2] 144)).cell? ⟨b', off' + j * 3 + 1, none⟩ = some (.slice vb1 vn1 vc1) := (((Below.refl _ _).alloc (Nat.le_refl _) _).cell (B := wr.heap.size) (p := ⟨b', off' + j * 3 + 1, none⟩) lb').trans d1
      have da2 : (wr.alloc (.cells #[.slice ub0 un0 uc0, .slice ub1 un1 uc1, .slice ub2 un2 uc2] 144)).cell? ⟨b', off' + j * 3 + 2, none⟩ = some (.slice vb2 vn2 vc2) := (((Below.refl _ _).alloc (Nat.le_refl _) _).cell (B := wr.heap.size) (p := ⟨b', off' + j * 3 + 2, none⟩) lb').trans d2
      obtain ⟨t, ht⟩ : ∃ t, t = decide (x = y) := ⟨_, rfl⟩
      rw [← ht] at hcall
      have HC := Lib.hid hcall
      clear hcall hi hi' hr hr' hc hd
      have HT : Hid (if t = true then xs.take (j + 1) = ys.take (j + 1) else decide (xs = ys) = false) := by
        cases t
        · simp only [Bool.false_eq_true, if_false]
          have hxy : x ≠ y := by simpa using ht.symm
          simp only [Hid, Bool.false_eq_true, if_false, decide_eq_false_iff_not]; intro e; subst e; exact hxy (Option.some.inj (hx.out.symm.trans hy.out))
        · have hxy : x = y := by simpa using ht.symm
          simp only [Hid, if_true]; rw [take_snoc' xs j x hx.out, take_snoc' ys j y hy.out, hE.out, hxy]
      clear ht hx hy hE
      go_wp2_with fail
      have hbx : Below wr.heap.size wr ((wr.alloc (.cells #[.slice ub0 un0 uc0, .slice ub1 un1 uc1, .slice ub2 un2 uc2] 144)).alloc (.cells #[.slice vb0 vn0 vc0, .slice vb1 vn1 vc1, .slice vb2 vn2 vc2] 144)) := ((Below.refl _ _).alloc (Nat.le_refl _) _).alloc (by simp) _
      refine (HC.out _ hbx).mono ?_
      rintro e w1 ⟨rfl, z1⟩
      have z2 := on hb (on hbx z1)
      clear hbx da0 da1 da2
      cases t
      · have HE : Hid (decide (xs = ys) = false) := by simpa [Hid] using HT.out
        go_wp2_with fail
        go_ret
        exact ⟨ret_bool HE.out.symm, z2⟩
      · have HE : Hid (xs.take (j + 1) = ys.take (j + 1)) := by simpa [Hid] using HT.out
        go_wp2_with fail
        go_roundw
        case rel => exact ⟨j + 1, by omega, by go_num, HE.out, z2⟩
        case measure => simp [intOf]; omega
    · have HE := Lib.hid (show decide (xs = ys) = true by
        have e := hE.out
        rw [List.take_of_length_le (by omega), List.take_of_length_le (by omega)] at e
        simp [e])
      clear hi hi' hl hl'
      go_wp2_with fail
      go_ret
      exact ⟨ret_bool HE.out.symm, hb⟩

set_option maxHeartbeats 2000000 in
theorem equalTs_impl (cs ds : List Value) (x y : DTs) (w : World) (h : rTs.rep w cs x) (h' : rTs.rep w ds y) :
    Calls Try.prog 202 #[.agg cs.toArray, .agg ds.toArray] w fun e w' => e = .returned (.bool (decide (x = y))) ∧ Below w.heap.size w w' := by
  obtain ⟨ub3, un3, uc3, rfl, g0, g1, g2, g3⟩ := rTs_open h
  obtain ⟨vb3, vn3, vc3, rfl, k0, k1, k2, k3⟩ := rTs_open h'
  clear h h'
  have hb1 : Below w.heap.size w ((w.alloc (.cells #[.string x.1, .int .i64 x.2.1, .int .i64 x.2.2.1, .slice ub3 un3 uc3] 101)).alloc (.cells #[.string y.1, .int .i64 y.2.1, .int .i64 y.2.2.1, .slice vb3 vn3 vc3] 101)) := ((Below.refl _ _).alloc (Nat.le_refl _) _).alloc (by simp) _
  go_enter Try.func202, Try.ntmps202
  obtain ⟨w1, hw1⟩ : ∃ W, W = (w.alloc (.cells #[.string x.1, .int .i64 x.2.1, .int .i64 x.2.2.1, .slice ub3 un3 uc3] 101)).alloc (.cells #[.string y.1, .int .i64 y.2.1, .int .i64 y.2.2.1, .slice vb3 vn3 vc3] 101) := ⟨_, rfl⟩
  have s1 : w1.heap.size = w.heap.size + 1 + 1 := by rw [hw1]; simp
  rw [← hw1] at hb1
  have bc_0 : w1.cell? ⟨w.heap.size, 0, none⟩ = some (.string x.1) := by rw [hw1]; simp [go_sem, World.cell?_alloc_past]
  have bd_0 : w1.cell? ⟨w.heap.size + 1, 0, none⟩ = some (.string y.1) := by rw [hw1]; simp [go_sem, World.cell?_alloc_past]
  have bc_1 : w1.cell? ⟨w.heap.size, 1, none⟩ = some (.int .i64 x.2.1) := by rw [hw1]; simp [go_sem, World.cell?_alloc_past]
  have bd_1 : w1.cell? ⟨w.heap.size + 1, 1, none⟩ = some (.int .i64 y.2.1) := by rw [hw1]; simp [go_sem, World.cell?_alloc_past]
  have bc_2 : w1.cell? ⟨w.heap.size, 2, none⟩ = some (.int .i64 x.2.2.1) := by rw [hw1]; simp [go_sem, World.cell?_alloc_past]
  have bd_2 : w1.cell? ⟨w.heap.size + 1, 2, none⟩ = some (.int .i64 y.2.2.1) := by rw [hw1]; simp [go_sem, World.cell?_alloc_past]
  have bc_3 : w1.cell? ⟨w.heap.size, 3, none⟩ = some (.slice ub3 un3 uc3) := by rw [hw1]; simp [go_sem, World.cell?_alloc_past]
  have bd_3 : w1.cell? ⟨w.heap.size + 1, 3, none⟩ = some (.slice vb3 vn3 vc3) := by rw [hw1]; simp [go_sem, World.cell?_alloc_past]
  by_cases e0 : x.1 = y.1
  case neg =>
    have HE := Lib.hid (show decide (x = y) = false by simp only [decide_eq_false_iff_not]; intro h9; exact e0 (by rw [h9]))
    have hne := bytes_ne e0
    clear e0
    go_wp2_with fail
    go_ret
    exact ⟨ret_bool HE.out.symm, by first | exact hb1 | (rw [hw1] at hb1; exact hb1)⟩
  have E0 := Lib.hid e0
  have hq0 : (x.1.toList == y.1.toList) = true := by rw [e0]; simp
  clear e0
  by_cases e1 : x.2.1 = y.2.1
  case neg =>
    have HE := Lib.hid (show decide (x = y) = false by simp only [decide_eq_false_iff_not]; intro h9; exact e1 (by rw [h9]))
    have hne : (x.2.1 == y.2.1) = false := beq_eq_false_iff_ne.2 e1
    clear e1
    go_wp2_with fail
    go_ret
    exact ⟨ret_bool HE.out.symm, by first | exact hb1 | (rw [hw1] at hb1; exact hb1)⟩
  have E1 := Lib.hid e1
  have hq1 : (x.2.1 == y.2.1) = true := by rw [e1]; simp
  clear e1
  by_cases e2 : x.2.2.1 = y.2.2.1
  case neg =>
    have HE := Lib.hid (show decide (x = y) = false by simp only [decide_eq_false_iff_not]; intro h9; exact e2 (by rw [h9]))
    have hne : (x.2.2.1 == y.2.2.1) = false := beq_eq_false_iff_ne.2 e2
    clear e2
    go_wp2_with fail
    go_ret
    exact ⟨ret_bool HE.out.symm, by first | exact hb1 | (rw [hw1] at hb1; exact hb1)⟩
  have E2 := Lib.hid e2
  have hq2 : (x.2.2.1 == y.2.2.1) = true := by rw [e2]; simp
  clear e2
  go_wp2_with fail
  rw [← hw1]
  clear hw1
  refine (equalFunc_Gl _ _ (x.2.2.2) (y.2.2.2) _ (rGl.mono g3 hb1) (rGl.mono k3 hb1)).mono ?_
  rintro e w2 ⟨rfl, z2⟩
  have s2 := z2.size
  have hb2 := on hb1 z2
  replace bc_0 := (z2.cell (p := ⟨w.heap.size, 0, none⟩) (by simp only []; omega)).trans bc_0
  replace bd_0 := (z2.cell (p := ⟨w.heap.size + 1, 0, none⟩) (by simp only []; omega)).trans bd_0
  replace bc_1 := (z2.cell (p := ⟨w.heap.size, 1, none⟩) (by simp only []; omega)).trans bc_1
  replace bd_1 := (z2.cell (p := ⟨w.heap.size + 1, 1, none⟩) (by simp only []; omega)).trans bd_1
  replace bc_2 := (z2.cell (p := ⟨w.heap.size, 2, none⟩) (by simp only []; omega)).trans bc_2
  replace bd_2 := (z2.cell (p := ⟨w.heap.size + 1, 2, none⟩) (by simp only []; omega)).trans bd_2
  replace bc_3 := (z2.cell (p := ⟨w.heap.size, 3, none⟩) (by simp only []; omega)).trans bc_3
  replace bd_3 := (z2.cell (p := ⟨w.heap.size + 1, 3, none⟩) (by simp only []; omega)).trans bd_3
  by_cases e3 : x.2.2.2 = y.2.2.2
  case neg =>
    have HE := Lib.hid (show decide (x = y) = false by simp only [decide_eq_false_iff_not]; intro h9; exact e3 (by rw [h9]))
    have hne : decide (x.2.2.2 = y.2.2.2) = false := by simpa using e3
    rw [hne]
    clear e3 hne
    go_wp2_with fail
    go_ret
    exact ⟨ret_bool HE.out.symm, hb2⟩
  have E3 := Lib.hid e3
  have hq3 : decide (x.2.2.2 = y.2.2.2) = true := by simpa using e3
  rw [hq3]
  clear e3 hq3
  have HE := Lib.hid (show decide (x = y) = true by simp only [decide_eq_true_eq]; exact Prod.ext E0.out (Prod.ext E1.out (Prod.ext E2.out (E3.out))))
  go_wp2_with fail
  go_ret
  exact ⟨ret_bool HE.out.symm, hb2⟩

end Go.Proofs.Ytbkoddikfpkocaa

/- Contracts: tables looked up. -/
namespace Go.Proofs.Ytbkoddikfpkocaa
open Go.RowKit Go.Sort
set_option linter.unusedVariables false
set_option linter.unusedSimpArgs false
set_option synthInstance.maxSize 2000
set_option synthInstance.maxHeartbeats 400000

/-- The place of the first table of a name, from place j on; -1 if there is none. -/
def idxFrom (name : ByteArray) (j : Nat) : List DT → Int
  | [] => -1
  | t :: r => if t.1 = name then (j : Int) else idxFrom name (j + 1) r
/-- The table of a name. -/
def look (db : DDb) (name : ByteArray) : Option DT := if validDb db then db.find? (fun t => decide (t.1 = name)) else none
theorem idxFrom_yes {name : ByteArray} {j : Nat} {xs : List DT} {t : DT} (h : xs[j]? = some t) (hn : t.1 = name) : idxFrom name j (xs.drop j) = (j : Int) := by
  rw [drop_at h, idxFrom, if_pos hn]
theorem idxFrom_no {name : ByteArray} {j : Nat} {xs : List DT} {t : DT} (h : xs[j]? = some t) (hn : t.1 ≠ name) : idxFrom name j (xs.drop j) = idxFrom name (j + 1) (xs.drop (j + 1)) := by
  rw [drop_at h, idxFrom, if_neg hn]
theorem idxFrom_end {name : ByteArray} {j : Nat} {xs : List DT} (h : xs.length ≤ j) : idxFrom name j (xs.drop j) = -1 := by
  rw [List.drop_eq_nil_of_le h]; rfl
/-- What the place says. -/
theorem idx_find {name : ByteArray} : ∀ {xs : List DT} {j : Nat}, (idxFrom name j xs = -1 ∧ xs.find? (fun t => decide (t.1 = name)) = none) ∨ ∃ k t, idxFrom name j xs = ((j + k : Nat) : Int) ∧ xs[k]? = some t ∧ xs.find? (fun t => decide (t.1 = name)) = some t
  | [], j => .inl ⟨rfl, rfl⟩
  | t :: r, j => by
    by_cases h : t.1 = name
    · exact .inr ⟨0, t, by simp [idxFrom, h], rfl, by simp [h]⟩
    · rcases @idx_find name r (j + 1) with ⟨h1, h2⟩ | ⟨k, u, h1, h2, h3⟩
      · exact .inl ⟨by rw [idxFrom, if_neg h]; exact h1, by simp [h, h2]⟩
      · exact .inr ⟨k + 1, u, by rw [idxFrom, if_neg h, h1]; omega, by simpa using h2, by simp [h, h3]⟩
theorem dbFrom_mem : ∀ {xs : List DT} {p : Option ByteArray}, dbFrom p xs = true → ∀ t ∈ xs, validT t = true
  | [], _, _, t, ht => by cases ht
  | x :: r, p, h, t, ht => by
    simp only [dbFrom, Bool.and_eq_true] at h
    rcases List.mem_cons.1 ht with rfl | ht
    · exact h.1
    · exact dbFrom_mem h.2.2 t ht
theorem rowsB_mem {n : Int} {rows : List (List Int)} (h : rowsB n rows = true) : ∀ r ∈ rows, (r.length : Int) = n ∧ ∀ v ∈ r, 0 ≤ v ∧ v ≤ 9 := by
  intro r hr
  have h1 := (List.all_eq_true.1 h) r hr
  simp only [rowB, Bool.and_eq_true, decide_eq_true_eq, List.all_eq_true, betw] at h1
  exact ⟨h1.2, fun v hv => h1.1 v hv⟩
/-- What a valid table is known to hold. -/
structure TOk (t : DT) : Prop where
  name : nameB t.1 = true
  ar : 1 ≤ t.2.1 ∧ t.2.1 ≤ 3
  len : t.2.2.length ≤ 8
  row : ∀ r ∈ t.2.2, (r.length : Int) = t.2.1 ∧ ∀ v ∈ r, 0 ≤ v ∧ v ≤ 9
  asc : ascB t.2.2 = true
theorem TOk.of {t : DT} (h : validT t = true) : TOk t := by
  simp only [validT, Bool.and_eq_true, decide_eq_true_eq, betw] at h
  exact ⟨h.1, h.2.1, h.2.2.1, rowsB_mem h.2.2.2.1, h.2.2.2.2⟩
theorem sumBy_bound {α : Type} {f : α → Nat} {B : Nat} : ∀ {xs : List α}, (∀ x ∈ xs, f x ≤ B) → sumBy f xs ≤ xs.length * B
  | [], _ => by simp [sumBy]
  | x :: t, h => by
    have h1 := h x (by simp)
    have h2 := sumBy_bound (fun y hy => h y (List.mem_cons_of_mem x hy))
    simp only [sumBy, List.map_cons, List.sum_cons, List.length_cons, Nat.add_mul, Nat.one_mul] at h2 ⊢
    omega
theorem TOk.bulk {t : DT} (h : TOk t) : bulk_T t ≤ 100 := by
  have h1 : t.1.size = 1 := by have := h.name; simp only [nameB, Bool.and_eq_true, decide_eq_true_eq] at this; exact this.1
  have h2 := h.ar
  have h3 := h.len
  have h4 : sumBy bulk_I t.2.2 ≤ t.2.2.length * 3 := sumBy_bound (fun r hr => by have := (h.row r hr).1; unfold bulk_I; omega)
  have h5 := Nat.mul_le_mul_right 3 h3
  unfold bulk_T bulk_II
  omega
theorem look_ok {db : DDb} {name : ByteArray} {t : DT} (h : look db name = some t) : TOk t := by
  unfold look at h
  split at h
  · rename_i hv
    simp only [validDb, Bool.and_eq_true] at hv
    exact TOk.of (dbFrom_mem hv.1 t (List.mem_of_find?_eq_some h))
  · cases h
theorem look_name {db : DDb} {name : ByteArray} {t : DT} (h : look db name = some t) : t.1 = name := by
  unfold look at h
  split at h
  · have := List.find?_some h; simpa using this
  · cases h

set_option maxHeartbeats 400000 in
theorem lookFn_any (cs : List Value) (t : DT) (name : ByteArray) (p : Addr) (w : World) (h : rT.rep w cs t) (hp : w.cell? p = some (.string name)) (hps : p.spot = none) :
    Calls Try.prog 195 #[.agg cs.toArray, .pointer (some p)] w fun e w' => e = .returned (.bool (decide (t.1 = name))) ∧ Below w.heap.size w w' := by
  obtain ⟨ub, un, uc, rfl, hs, hi, g1⟩ := rT_open h
  obtain ⟨pb, po, ps⟩ := p
  simp only at hps
  subst hps
  have hlt : pb < w.heap.size := cell_lt hp
  clear h g1
  have hb0 : Below w.heap.size w w := Below.refl _ _
  have c0 : w.cell? ⟨pb, po, none⟩ = some (.string name) := hp
  clear hp
  go_enter Try.func195, Try.ntmps195
  obtain ⟨w1, hw1⟩ : ∃ W, W = w.alloc (.cells #[.string t.1, .int .i64 t.2.1, .slice ub un uc] 34) := ⟨_, rfl⟩
  have z1 : Below w.heap.size w w1 := by rw [hw1]; exact (Below.refl _ _).alloc (Nat.le_refl _) _
  have s1 : w1.heap.size = w.heap.size + 1 := by rw [hw1]; simp
  have hb1 := on hb0 z1
  have old1_c0 := c0
  replace c0 := (z1.cell (p := ⟨pb, po, none⟩) (by simp only []; omega)).trans c0
  have b_0 : w1.cell? ⟨w.heap.size, 0, none⟩ = some (.string t.1) := by rw [hw1]; exact box_cell (Below.refl _ _) rfl
  have b_1 : w1.cell? ⟨w.heap.size, 1, none⟩ = some (.int .i64 t.2.1) := by rw [hw1]; exact box_cell (Below.refl _ _) rfl
  have b_2 : w1.cell? ⟨w.heap.size, 2, none⟩ = some (.slice ub un uc) := by rw [hw1]; exact box_cell (Below.refl _ _) rfl
  have raw1_c0 := c0
  have raw1_b_0 := b_0
  have raw1_b_1 := b_1
  have raw1_b_2 := b_2
  rw [hw1] at raw1_c0 raw1_b_0 raw1_b_1 raw1_b_2
  by_cases e : t.1 = name
  · have HE := Lib.hid (show (t.1.toList == name.toList) = true by rw [e]; simp)
    have HD := Lib.hid (decide_eq_true e)
    clear e
    have hq := HE.out
    go_wp2_with fail
    go_ret
    exact ⟨ret_bool HD.out.symm, by first | exact hb1 | (rw [hw1] at hb1; exact hb1)⟩
  · have hq := bytes_ne e
    have HD := Lib.hid (decide_eq_false e)
    clear e
    go_wp2_with fail
    go_ret
    exact ⟨ret_bool HD.out.symm, by first | exact hb1 | (rw [hw1] at hb1; exact hb1)⟩

end Go.Proofs.Ytbkoddikfpkocaa

/- Contracts: a row put among rows, by the reference (l4Put). -/
namespace Go.Proofs.Ytbkoddikfpkocaa
open Go.RowKit
set_option linter.unusedVariables false
set_option linter.unusedSimpArgs false
set_option synthInstance.maxSize 2000
set_option synthInstance.maxHeartbeats 400000

theorem putL_at {r x : List Int} {rows : List (List Int)} {j : Nat} (p : Bool) (h : rows[j]? = some x) : putL r p (rows.drop j) = if decide (0 < cmpRows x r) && !(p || decide (cmpRows x r = 0)) then r :: x :: putL r true (rows.drop (j + 1)) else x :: putL r (p || decide (cmpRows x r = 0)) (rows.drop (j + 1)) := by
  rw [drop_at h]; rfl
theorem putL_end {r : List Int} {rows : List (List Int)} {j : Nat} (p : Bool) (h : rows.length ≤ j) : putL r p (rows.drop j) = if p then [] else [r] := by
  rw [List.drop_eq_nil_of_le h]; rfl

set_option maxRecDepth 100000 in
set_option maxHeartbeats 4000000 in
theorem l4Put_any (u v : Value) (rows : List (List Int)) (r : List Int) (w : World) (h : rII.rep w [u] rows) (h' : rI.rep w [v] r) (hn1 : rows.length ≤ 1000000) (hrows : ∀ (j : Nat) (x : List Int), rows[j]? = some x → x.length ≤ 100000000) (hr1 : r.length ≤ 100000000) :
    Calls Try.prog 135 #[u, v] w fun e w' => ∃ ub un uc, e = .returned (.slice ub un uc) ∧ Own oII w.heap.size w'.heap.size w' [.slice ub un uc] (putL r false rows) ∧ Below w.heap.size w w' := by
  obtain ⟨a, cap, rfl, _, _, t0⟩ := rS_open h
  obtain ⟨b, cap2, rfl, _, _, ir⟩ := rI_open h'
  clear h h'
  obtain ⟨n, hl⟩ : ∃ n, rows.length = n := ⟨_, rfl⟩
  obtain ⟨m, hm⟩ : ∃ m, r.length = m := ⟨_, rfl⟩
  rw [hl] at t0 hn1 ⊢
  rw [hm] at ir hr1 ⊢
  have HR := Lib.hid hrows
  have HV : Hid (putL r false rows = [] ++ putL r false (rows.drop 0)) := Lib.hid (by simp)
  have IR := Lib.hid (fun W (hW : Below w.heap.size w W) => ir.below hW)
  clear hrows ir
  have hb0 : Below w.heap.size w w := Below.refl _ _
  go_enter Try.func135, Try.ntmps135
  obtain ⟨w1, hw1⟩ : ∃ W, W = w.alloc (.cells #[] 24) := ⟨_, rfl⟩
  have z1 : Below w.heap.size w w1 := by rw [hw1]; exact (Below.refl _ _).alloc (Nat.le_refl _) _
  have s1 : w1.heap.size = w.heap.size + 1 := by rw [hw1]; simp
  have hb1 := on hb0 z1
  have ho : ∀ S, Acc 24 oI w.heap.size S w1.heap.size w1 (.slice (some ⟨w.heap.size, 0, none⟩) 0 0) [] := fun S => by rw [hw1]; exact Acc.empty (by omega) (by first | (simp; done) | (simp; omega))
  go_wp2_with fail
  rw [← hw1]
  clear hw1
  go_loopw [5, 6, 7] (fun v p k wr => ∃ (j : Nat) (q : Bool) (out : List (List Int)), j ≤ n ∧ k = .int .i64 j ∧ p = .bool q ∧ Hid (putL r false rows = out ++ putL r q (rows.drop j)) ∧ out.length ≤ 2 * j ∧ Acc 24 oI w.heap.size w1.heap.size wr.heap.size wr v out ∧ Turn w.heap.size (w.heap.size + 1) w1 wr) (fun _ _ k _ => n - (intOf k).toNat)
  case atStart => exact ⟨0, false, [], Nat.zero_le _, rfl, rfl, HV.out, Nat.zero_le _, (ho _).wide (Nat.le_refl _) (by omega), turn_refl _ _ _⟩
  case round =>
    obtain ⟨j, q, out, hj, rfl, rfl, hE, hol, hacc, hdr⟩ := hrel
    have hlc := hdr
    have hE0 : w1.heap.size = w.heap.size + 1 := by omega
    clear ho
    have s2 := hdr.size
    have hb2 := hb1.trans ((hdr.below (by omega)).mono (by omega))
    by_cases hlt : j < n
    · obtain ⟨b0, o0, r1, m1, q1, x, rfl, hc, hx, hi, hq1, hq2⟩ := t0.row hlt
      have hclt : b0 < w.heap.size := cell_lt hc
      have c0 : wr.cell? ⟨b0, o0 + j, none⟩ = some (.slice r1 m1 q1) := (hb2.cell (p := ⟨b0, o0 + j, none⟩) hclt).trans hc
      have HX := Lib.hid (fun W (hW : Below w.heap.size w W) => hi.below hW)
      have hxl := HR.out j x hx.out
      have hm1 : m1 ≤ 100000000 := by rw [← hi.len]; exact hxl
      have HP := Lib.hid (putL_at (r := r) q hx.out)
      have HC := Lib.hid (fun W (hW : Below w.heap.size w W) => cmp_spec r1 b m1 m q1 cap2 x r W (hi.below hW) (IR.out W hW))
      obtain ⟨d, hd⟩ : ∃ d, d = cmpRows x r := ⟨_, rfl⟩
      have hrng : d = -1 ∨ d = 0 ∨ d = 1 := by rw [hd]; exact cmpRows_rng x r
      have HP2 : Hid (putL r q (rows.drop j) = if decide (0 < d) && !(q || decide (d = 0)) then r :: x :: putL r true (rows.drop (j + 1)) else x :: putL r (q || decide (d = 0)) (rows.drop (j + 1))) := Lib.hid (by rw [hd]; exact HP.out)
      have HC2 : Hid (∀ W, Below w.heap.size w W → Calls Try.prog 104 #[.slice r1 m1 q1, .slice b m cap2] W fun e w' => e = .returned (.int .i64 d) ∧ Drew W w') := Lib.hid (by rw [hd]; exact HC.out)
      have HC0 := Lib.hid hc
      clear hc hx hi hl hE0 HP HC hd
      rcases hrng with rfl | rfl | rfl
      all_goals cases q
      case inl.false =>
        have HE : Hid (putL r false rows = (out ++ [x]) ++ putL r false (rows.drop (j + 1))) := Lib.hid (by rw [hE.out, HP2.out]; simp)
        clear HP2 hE
        go_wp2_with fail
        refine (HC2.out _ hb2).mono ?_
        rintro e w3 ⟨rfl, z3⟩
        replace z3 : Below wr.heap.size wr w3 := z3.below _
        have s4 := z3.size
        have hb4 := on hb2 z3
        replace hlc := hlc.trans (turn_below z3 (Nat.le_refl _))
        replace hacc := hacc.below z3 (by omega)
        replace c0 := (z3.cell (p := ⟨b0, o0 + j, none⟩) (by simp only []; omega)).trans c0
        have i2 := (HX.out _ hb4).below ((Below.refl _ _).alloc (Nat.le_refl _) (.cells #[] 3))
        have c0a := cell_ad (o := .cells #[] 3) c0
        go_wp2_with (first | (at_builtin; refine wpList_copyI _ _ _ _ _ _ x rfl i2 (by omega) rfl rfl rfl rfl ?_; intro vc wc own1 zc szc; obtain ⟨ac, cc, rfl, _⟩ := own_form own1.row; clear i2; replace hacc := hacc.below zc (by omega); replace hlc := hlc.trans (turn_below zc (Nat.le_refl _)); have sc := zc.size; have oy := own1.own; have hone : ∀ z ∈ [Value.slice ac m1 cc], z.oneCell' = true := (by intro z hz; simp at hz; subst hz; rfl)) | (at_builtin; refine wpList_acc Try.underlying32 infoI rfl (by decide) (by decide) rfl _ _ _ _ [.slice ac m1 cc] x hacc oy hone (by omega) (by omega) (by omega) (by omega) hlc rfl (by omega) (by omega) rfl rfl rfl rfl rfl ?_; intro v1 w1 hacc1 ht1 hsz1; obtain ⟨ad, nd, cd, rfl⟩ := hacc1.form3))
        go_roundw
        case rel => exact ⟨j + 1, false, out ++ [x], by omega, by go_num, rfl, HE.out, by rw [List.length_append]; simp; omega, hacc1, ht1⟩
        case measure => simp [intOf]; omega
      case inl.true =>
        have HE : Hid (putL r false rows = (out ++ [x]) ++ putL r true (rows.drop (j + 1))) := Lib.hid (by rw [hE.out, HP2.out]; simp)
        clear HP2 hE
        go_wp2_with fail
        refine (HC2.out _ hb2).mono ?_
        rintro e w5 ⟨rfl, z5⟩
        replace z5 : Below wr.heap.size wr w5 := z5.below _
        have s6 := z5.size
        have hb6 := on hb2 z5
        replace hlc := hlc.trans (turn_below z5 (Nat.le_refl _))
        replace hacc := hacc.below z5 (by omega)
        replace c0 := (z5.cell (p := ⟨b0, o0 + j, none⟩) (by simp only []; omega)).trans c0
        have i2 := (HX.out _ hb6).below ((Below.refl _ _).alloc (Nat.le_refl _) (.cells #[] 3))
        have c0a := cell_ad (o := .cells #[] 3) c0
        go_wp2_with (first | (at_builtin; refine wpList_copyI _ _ _ _ _ _ x rfl i2 (by omega) rfl rfl rfl rfl ?_; intro vc wc own1 zc szc; obtain ⟨ac, cc, rfl, _⟩ := own_form own1.row; clear i2; replace hacc := hacc.below zc (by omega); replace hlc := hlc.trans (turn_below zc (Nat.le_refl _)); have sc := zc.size; have oy := own1.own; have hone : ∀ z ∈ [Value.slice ac m1 cc], z.oneCell' = true := (by intro z hz; simp at hz; subst hz; rfl)) | (at_builtin; refine wpList_acc Try.underlying32 infoI rfl (by decide) (by decide) rfl _ _ _ _ [.slice ac m1 cc] x hacc oy hone (by omega) (by omega) (by omega) (by omega) hlc rfl (by omega) (by omega) rfl rfl rfl rfl rfl ?_; intro v1 w1 hacc1 ht1 hsz1; obtain ⟨ad, nd, cd, rfl⟩ := hacc1.form3))
        go_roundw
        case rel => exact ⟨j + 1, true, out ++ [x], by omega, by go_num, rfl, HE.out, by rw [List.length_append]; simp; omega, hacc1, ht1⟩
        case measure => simp [intOf]; omega
      case inr.inl.false =>
        have HE : Hid (putL r false rows = (out ++ [x]) ++ putL r true (rows.drop (j + 1))) := Lib.hid (by rw [hE.out, HP2.out]; simp)
        clear HP2 hE
        go_wp2_with fail
        refine (HC2.out _ hb2).mono ?_
        rintro e w7 ⟨rfl, z7⟩
        replace z7 : Below wr.heap.size wr w7 := z7.below _
        have s8 := z7.size
        have hb8 := on hb2 z7
        replace hlc := hlc.trans (turn_below z7 (Nat.le_refl _))
        replace hacc := hacc.below z7 (by omega)
        replace c0 := (z7.cell (p := ⟨b0, o0 + j, none⟩) (by simp only []; omega)).trans c0
        have i2 := (HX.out _ hb8).below ((Below.refl _ _).alloc (Nat.le_refl _) (.cells #[] 3))
        have c0a := cell_ad (o := .cells #[] 3) c0
        go_wp2_with (first | (at_builtin; refine wpList_copyI _ _ _ _ _ _ x rfl i2 (by omega) rfl rfl rfl rfl ?_; intro vc wc own1 zc szc; obtain ⟨ac, cc, rfl, _⟩ := own_form own1.row; clear i2; replace hacc := hacc.below zc (by omega); replace hlc := hlc.trans (turn_below zc (Nat.le_refl _)); have sc := zc.size; have oy := own1.own; have hone : ∀ z ∈ [Value.slice ac m1 cc], z.oneCell' = true := (by intro z hz; simp at hz; subst hz; rfl)) | (at_builtin; refine wpList_acc Try.underlying32 infoI rfl (by decide) (by decide) rfl _ _ _ _ [.slice ac m1 cc] x hacc oy hone (by omega) (by omega) (by omega) (by omega) hlc rfl (by omega) (by omega) rfl rfl rfl rfl rfl ?_; intro v1 w1 hacc1 ht1 hsz1; obtain ⟨ad, nd, cd, rfl⟩ := hacc1.form3))
        go_roundw
        case rel => exact ⟨j + 1, true, out ++ [x], by omega, by go_num, rfl, HE.out, by rw [List.length_append]; simp; omega, hacc1, ht1⟩
        case measure => simp [intOf]; omega
      case inr.inl.true =>
        have HE : Hid (putL r false rows = (out ++ [x]) ++ putL r true (rows.drop (j + 1))) := Lib.hid (by rw [hE.out, HP2.out]; simp)
        clear HP2 hE
        go_wp2_with fail
        refine (HC2.out _ hb2).mono ?_
        rintro e w9 ⟨rfl, z9⟩
        replace z9 : Below wr.heap.size wr w9 := z9.below _
        have s10 := z9.size
        have hb10 := on hb2 z9
        replace hlc := hlc.trans (turn_below z9 (Nat.le_refl _))
        replace hacc := hacc.below z9 (by omega)
        replace c0 := (z9.cell (p := ⟨b0, o0 + j, none⟩) (by simp only []; omega)).trans c0
        have i2 := (HX.out _ hb10).below ((Below.refl _ _).alloc (Nat.le_refl _) (.cells #[] 3))
        have c0a := cell_ad (o := .cells #[] 3) c0
        go_wp2_with (first | (at_builtin; refine wpList_copyI _ _ _ _ _ _ x rfl i2 (by omega) rfl rfl rfl rfl ?_; intro vc wc own1 zc szc; obtain ⟨ac, cc, rfl, _⟩ := own_form own1.row; clear i2; replace hacc := hacc.below zc (by omega); replace hlc := hlc.trans (turn_below zc (Nat.le_refl _)); have sc := zc.size; have oy := own1.own; have hone : ∀ z ∈ [Value.slice ac m1 cc], z.oneCell' = true := (by intro z hz; simp at hz; subst hz; rfl)) | (at_builtin; refine wpList_acc Try.underlying32 infoI rfl (by decide) (by decide) rfl _ _ _ _ [.slice ac m1 cc] x hacc oy hone (by omega) (by omega) (by omega) (by omega) hlc rfl (by omega) (by omega) rfl rfl rfl rfl rfl ?_; intro v1 w1 hacc1 ht1 hsz1; obtain ⟨ad, nd, cd, rfl⟩ := hacc1.form3))
        go_roundw
        case rel => exact ⟨j + 1, true, out ++ [x], by omega, by go_num, rfl, HE.out, by rw [List.length_append]; simp; omega, hacc1, ht1⟩
        case measure => simp [intOf]; omega
      case inr.inr.true =>
        have HE : Hid (putL r false rows = (out ++ [x]) ++ putL r true (rows.drop (j + 1))) := Lib.hid (by rw [hE.out, HP2.out]; simp)
        clear HP2 hE
        go_wp2_with fail
        refine (HC2.out _ hb2).mono ?_
        rintro e w11 ⟨rfl, z11⟩
        replace z11 : Below wr.heap.size wr w11 := z11.below _
        have s12 := z11.size
        have hb12 := on hb2 z11
        replace hlc := hlc.trans (turn_below z11 (Nat.le_refl _))
        replace hacc := hacc.below z11 (by omega)
        replace c0 := (z11.cell (p := ⟨b0, o0 + j, none⟩) (by simp only []; omega)).trans c0
        have i2 := (HX.out _ hb12).below ((Below.refl _ _).alloc (Nat.le_refl _) (.cells #[] 3))
        have c0a := cell_ad (o := .cells #[] 3) c0
        go_wp2_with (first | (at_builtin; refine wpList_copyI _ _ _ _ _ _ x rfl i2 (by omega) rfl rfl rfl rfl ?_; intro vc wc own1 zc szc; obtain ⟨ac, cc, rfl, _⟩ := own_form own1.row; clear i2; replace hacc := hacc.below zc (by omega); replace hlc := hlc.trans (turn_below zc (Nat.le_refl _)); have sc := zc.size; have oy := own1.own; have hone : ∀ z ∈ [Value.slice ac m1 cc], z.oneCell' = true := (by intro z hz; simp at hz; subst hz; rfl)) | (at_builtin; refine wpList_acc Try.underlying32 infoI rfl (by decide) (by decide) rfl _ _ _ _ [.slice ac m1 cc] x hacc oy hone (by omega) (by omega) (by omega) (by omega) hlc rfl (by omega) (by omega) rfl rfl rfl rfl rfl ?_; intro v1 w1 hacc1 ht1 hsz1; obtain ⟨ad, nd, cd, rfl⟩ := hacc1.form3))
        go_roundw
        case rel => exact ⟨j + 1, true, out ++ [x], by omega, by go_num, rfl, HE.out, by rw [List.length_append]; simp; omega, hacc1, ht1⟩
        case measure => simp [intOf]; omega
      -- the row goes in ahead of this one
      case inr.inr.false =>
        have HE : Hid (putL r false rows = ((out ++ [r]) ++ [x]) ++ putL r true (rows.drop (j + 1))) := Lib.hid (by rw [hE.out, HP2.out]; simp)
        clear HP2 hE
        go_wp2_with fail
        refine (HC2.out _ hb2).mono ?_
        rintro e w13 ⟨rfl, z13⟩
        replace z13 : Below wr.heap.size wr w13 := z13.below _
        have s14 := z13.size
        have hb14 := on hb2 z13
        replace hlc := hlc.trans (turn_below z13 (Nat.le_refl _))
        replace hacc := hacc.below z13 (by omega)
        replace c0 := (z13.cell (p := ⟨b0, o0 + j, none⟩) (by simp only []; omega)).trans c0
        have i2 := (IR.out _ hb14).below ((Below.refl _ _).alloc (Nat.le_refl _) (.cells #[] 3))
        have hol1 : (out ++ [r]).length ≤ 2 * j + 1 := by rw [List.length_append]; simp; omega
        go_wp2_with (first | (at_builtin; refine wpList_copyI _ _ _ _ _ _ r rfl i2 (by omega) rfl rfl rfl rfl ?_; intro vc wc own1 zc szc; obtain ⟨ac, cc, rfl, _⟩ := own_form own1.row; clear i2; replace hacc := hacc.below zc (by omega); replace hlc := hlc.trans (turn_below zc (Nat.le_refl _)); have sc := zc.size; have oy := own1.own; have hone : ∀ z ∈ [Value.slice ac m cc], z.oneCell' = true := (by intro z hz; simp at hz; subst hz; rfl); have c0c := (zc.cell (p := ⟨b0, o0 + j, none⟩) (by simp only []; omega)).trans c0) | (at_builtin; refine wpList_acc Try.underlying32 infoI rfl (by decide) (by decide) rfl _ _ _ _ [.slice ac m cc] r hacc oy hone (by omega) (by omega) (by omega) (by omega) hlc rfl (by omega) (by omega) rfl rfl rfl rfl rfl ?_; intro v1 wd hacc1 ht1 hsz1; obtain ⟨ad, nd, cd, rfl⟩ := hacc1.form3; have hbd := hb1.trans ((ht1.below (by omega)).mono (by omega)); have sd := ht1.size; have c1 := cell_ad (o := .cells #[] 3) ((hbd.cell (p := ⟨b0, o0 + j, none⟩) hclt).trans HC0.out); have i3 := (HX.out _ hbd).below ((Below.refl _ _).alloc (Nat.le_refl _) (.cells #[] 3)); clear hacc hlc oy hone own1 zc; have hacc := hacc1; have hlc := ht1; clear hacc1 ht1) | (at_builtin; refine wpList_copyI _ _ _ _ _ _ x rfl i3 (by omega) rfl rfl rfl rfl ?_; intro vc wc own1 zc szc; obtain ⟨ac, cc, rfl, _⟩ := own_form own1.row; clear i3; replace hacc := hacc.below zc (by omega); replace hlc := hlc.trans (turn_below zc (Nat.le_refl _)); have sc := zc.size; have oy := own1.own; have hone : ∀ z ∈ [Value.slice ac m1 cc], z.oneCell' = true := (by intro z hz; simp at hz; subst hz; rfl)) | (at_builtin; refine wpList_acc Try.underlying32 infoI rfl (by decide) (by decide) rfl _ _ _ _ [.slice ac m1 cc] x hacc oy hone (by omega) (by omega) (by omega) (by omega) hlc rfl (by omega) (by omega) rfl rfl rfl rfl rfl ?_; intro v1 w1 hacc1 ht1 hsz1; obtain ⟨ad, nd, cd, rfl⟩ := hacc1.form3))
        go_roundw
        case rel => exact ⟨j + 1, true, out ++ [r] ++ [x], by omega, by go_num, rfl, HE.out, by rw [List.length_append]; simp only [List.length_cons, List.length_nil]; omega, hacc1, ht1⟩
        case measure => simp [intOf]; omega
    · have hjn : j = n := by omega
      have HE : Hid (putL r false rows = out ++ if q then [] else [r]) := Lib.hid (by rw [hE.out, putL_end q (by omega)])
      clear hE
      cases q with
      | true =>
        obtain ⟨ad, nd, cd, rfl⟩ := hacc.form3
        have HO := Lib.hid (hacc.own (B := w.heap.size) (by omega) (by omega) (Nat.le_refl _))
        clear hacc hl
        go_wp2_with fail
        go_ret
        exact ⟨_, _, _, rfl, by rw [HE.out, if_pos trivial, List.append_nil]; exact HO.out, hb2⟩
      | false =>
        have i2 := (IR.out _ hb2).below ((Below.refl _ _).alloc (Nat.le_refl _) (.cells #[] 3))
        clear hl
        go_wp2_with (first | (at_builtin; refine wpList_copyI _ _ _ _ _ _ r rfl i2 (by omega) rfl rfl rfl rfl ?_; intro vc wc own1 zc szc; obtain ⟨ac, cc, rfl, _⟩ := own_form own1.row; clear i2; replace hacc := hacc.below zc (by omega); replace hlc := hlc.trans (turn_below zc (Nat.le_refl _)); have sc := zc.size; have oy := own1.own; have hone : ∀ z ∈ [Value.slice ac m cc], z.oneCell' = true := (by intro z hz; simp at hz; subst hz; rfl)) | (at_builtin; refine wpList_acc Try.underlying32 infoI rfl (by decide) (by decide) rfl _ _ _ _ [.slice ac m cc] r hacc oy hone (by omega) (by omega) (by omega) (by omega) hlc rfl (by omega) (by omega) rfl rfl rfl rfl rfl ?_; intro v1 w1 hacc1 ht1 hsz1; obtain ⟨ad, nd, cd, rfl⟩ := hacc1.form3))
        have hbd := hb1.trans ((ht1.below (by omega)).mono (by omega))
        have HO := Lib.hid (hacc1.own (B := w.heap.size) (by omega) (by omega) (Nat.le_refl _))
        clear hacc hlc hacc1 oy hone
        go_wp2_with fail
        go_ret
        exact ⟨_, _, _, rfl, by rw [HE.out]; exact HO.out, hbd⟩

end Go.Proofs.Ytbkoddikfpkocaa

/- Contracts: rows sorted, each once (impl.sorted). -/
namespace Go.Proofs.Ytbkoddikfpkocaa
open Go.RowKit Go.Sort
set_option linter.unusedVariables false
set_option linter.unusedSimpArgs false
set_option synthInstance.maxSize 2000
set_option synthInstance.maxHeartbeats 400000

theorem compF_nil (w : World) :
    Calls Try.prog 190 #[.slice none 0 0, .func (.func 191) #[] #[]] w fun e w' => e = .returned (.slice none 0 0) ∧ w' = w := by
  go_enter Try.func190, Try.ntmps190
  go_wp2_with fail
  go_ret
  exact ⟨rfl, rfl⟩

set_option maxHeartbeats 2000000 in
theorem sorted_any (v : Value) (rows : List (List Int)) (w : World) (h : rII.rep w [v] rows) (hn : bulk_II rows ≤ 100000000) :
    Calls Try.prog 140 #[v] w fun e w' => ∃ u, e = .returned u ∧ Own oII w.heap.size w'.heap.size w' [u] (canon rows) ∧ Below w.heap.size w w' := by
  have HC := Lib.hid (copyRows_any v rows w h hn)
  clear h
  go_enter Try.func140, Try.ntmps140
  go_wp2_with fail
  refine HC.out.mono ?_
  rintro e w1 ⟨u, rfl, ho, z1⟩
  have s1 := z1.size
  obtain ⟨a, n, c, rfl⟩ := oII_form1 ho
  rcases own_nilptr ho with ⟨rfl, rfl, rfl, rfl⟩ | ⟨g, rfl, hln⟩
  · have HO := Lib.hid ho
    clear ho
    go_wp2_with fail
    refine (Go.Proofs.AnyF.slices_SortFunc_none { Try.laysSlF6_f188 with } none 0 _ w1).mono ?_
    rintro e w' ⟨rfl, rfl⟩
    go_wp2_with fail
    refine (compF_nil _).mono ?_
    rintro e w' ⟨rfl, rfl⟩
    go_wp2_with fail
    go_ret
    exact ⟨_, rfl, by simpa [canon] using HO.out, z1⟩
  · obtain ⟨d, hd, hdl, hat, hg, hnd, hbd⟩ := rows_open ho
    have hgl : w.heap.size ≤ g := (hbd g (by simp)).1
    have hn9 : n ≤ 1000000000 := by
      have : rows.length ≤ bulk_II rows := by unfold bulk_II; omega
      omega
    have hsort := Try.slices_SortFunc El.v (fun x => x.one) cfE (swoE w1 g) 189 #[] g 0 c d.toArray w1 (enters_of Try.func189 (by kernel_rfl) rfl) cmpLays hat.holds hg (by simp; omega)
    rw [List.size_toArray, hdl] at hsort
    have HS := Lib.hid hsort
    clear hsort ho
    go_wp2_with fail
    refine HS.out.mono ?_
    rintro e w2 ⟨rfl, d', m, os, hp, hs, rfl⟩
    obtain ⟨hp1, hp2⟩ := permIn_all (d := d) (d' := d') (by rw [List.size_toArray, hdl]; exact hp)
    obtain ⟨hat2, hbut⟩ := At.sort (n := m) (d' := d'.toList) os hat hg (by simp; omega)
    rw [Array.toArray_toList] at hat2 hbut
    have hbl := sortW_below (lo := w.heap.size) (m := m) d' os s1 hgl
    obtain ⟨W, hW⟩ : ∃ W, W = Go.Proofs.sortWorld El.v w1 g 0 m d' os := ⟨_, rfl⟩
    rw [← hW] at hat2 hbut hbl ⊢
    have sW : w1.heap.size ≤ W.heap.size := by rw [hW]; exact (sortW_below (lo := 0) (m := m) d' os (Nat.zero_le _) (Nat.zero_le _)).size
    have HCF := Lib.hid (compF_any d'.toList W hat2 hbut sW hg n (by simp; omega) hn9)
    have HP := Lib.hid hp1
    have HSP := Lib.hid (sorted_pair (d' := d') (by rw [hp2, hdl]; exact hs))
    clear hW hat2 hat hp hs HS HC
    go_wp2_with fail
    refine HCF.out.mono ?_
    rintro e w3 ⟨rfl, hat3, hT⟩
    have hln2 : d'.toList.length = n := by simp; omega
    have hmap : (dedTo El.xs d'.toList n).map El.xs = canon rows := by
      rw [dedTo_map (by omega), List.take_of_length_le (by simp; omega)]
      refine dedup_canon (HSP.out.imp fun h => by omega) fun z => ?_
      rw [← hd]
      exact (HP.out.map El.xs).mem_iff
    have hsub : (dedTo El.xs d'.toList n).Sublist d'.toList := by
      have := dedTo_sub El.xs d'.toList n
      rwa [List.take_of_length_le (by omega)] at this
    have hfp : (fps (dedTo El.xs d'.toList n)).Sublist (fps d'.toList) := fps_sub hsub
    have hfq := fps_perm HP.out
    have hnd2 : (g :: fps d'.toList).Nodup := (List.Perm.nodup_iff (hfq.cons g)).2 hnd
    have key := rows_close (lo := w.heap.size) (hi := w1.heap.size) hat3 (Turn.but hbut sW hT) (hnd2.sublist (hfp.cons_cons g)) (fun k hk => by
      rcases List.mem_cons.1 hk with rfl | hk
      · exact hbd k (by simp)
      · exact hbd k (List.mem_cons_of_mem _ (hfq.mem_iff.1 (hfp.subset hk))))
    rw [hmap] at key
    have hs3 := hT.size
    have HK := Lib.hid (key.mono (Nat.le_refl _) (show w1.heap.size ≤ w3.heap.size by omega))
    have HB := Lib.hid (((z1.trans hbl).trans ((hT.below (by omega)).mono hgl) : Below w.heap.size w w3))
    clear key hmap hsub hfp hfq hnd2 hat3 HCF
    go_wp2_with fail
    go_ret
    exact ⟨_, rfl, HK.out, HB.out⟩

end Go.Proofs.Ytbkoddikfpkocaa

/- Plain: bounds of groups and counts. -/
namespace Go.Proofs.Ytbkoddikfpkocaa
open Go.RowKit
set_option linter.unusedVariables false
set_option linter.unusedSimpArgs false

theorem grpV_facts (t : DT) (cs : List Int) : (grpV t cs).length ≤ 8 ∧ (∀ r ∈ grpV t cs, r.length ≤ 3) := by
  unfold grpV
  split
  · rename_i h
    rw [colsT, Bool.and_eq_true] at h
    have hT := TOk.of h.2
    have h1 := hT.ar
    have h2 := hT.len
    have h3 := colsB_len' (by omega) h.1
    refine ⟨?_, fun r hr => ?_⟩
    · have := canon_len (selRows t.2.2 cs)
      rw [selRows_len] at this
      unfold groups; omega
    · have h9 := canon_mem.1 hr
      simp only [selRows, List.mem_map] at h9
      obtain ⟨y, _, rfl⟩ := h9
      have := sel_len y cs; omega
  · exact ⟨by simp, fun r hr => by cases hr⟩
theorem grpV_bulk (t : DT) (cs : List Int) : cnt_II (grpV t cs) ≤ 200 ∧ bulk_II (grpV t cs) ≤ 100 := by
  obtain ⟨h1, h2⟩ := grpV_facts t cs
  have h3 : sumBy bulk_I (grpV t cs) ≤ (grpV t cs).length * 3 := sumBy_bound (fun r hr => by have := h2 r hr; unfold bulk_I; omega)
  have h4 : bulk_II (grpV t cs) ≤ 100 := by unfold bulk_II; omega
  have h5 := cnt_le_II (grpV t cs)
  omega
theorem grpN_facts (t : DT) (cs : List Int) : (grpN t cs).length = (grpV t cs).length ∧ (∀ x ∈ grpN t cs, 0 ≤ x ∧ x ≤ 8) := by
  unfold grpN grpV
  split
  · rename_i h
    rw [colsT, Bool.and_eq_true] at h
    have h2 := (TOk.of h.2).len
    refine ⟨countsOf_len _ _, fun x hx => ?_⟩
    simp only [countsOf, List.mem_map] at hx
    obtain ⟨g, _, rfl⟩ := hx
    have := cntRow_le g (selRows t.2.2 cs)
    rw [selRows_len] at this
    omega
  · exact ⟨rfl, fun r hr => by cases hr⟩
theorem grpN_cnt (t : DT) (cs : List Int) : cnt_I (grpN t cs) ≤ 8 := by
  have h1 := grpV_facts t cs
  have h2 := grpN_facts t cs
  unfold cnt_I; omega

end Go.Proofs.Ytbkoddikfpkocaa

/- Contracts: groups of a table and their counts, by the program. -/
namespace Go.Proofs.Ytbkoddikfpkocaa
open Go.RowKit
set_option linter.unusedVariables false
set_option linter.unusedSimpArgs false
set_option synthInstance.maxSize 2000
set_option synthInstance.maxHeartbeats 400000

/-- A row's block lies in the range that is owned. -/
theorem own_blk {α : Type} {t : TypeId} {o : OS α} {lo hi b off n c : Nat} {w : World} {xs : List α} (h : Own (O.slice t o) lo hi w [.slice (some ⟨b, off, none⟩) n c] xs) : lo ≤ b ∧ b < hi := by
  obtain ⟨fp, ⟨v, css, fps, hv, rfl, _, _⟩, _, hb⟩ := h
  simp at hv
  subst hv
  exact hb b (by simp [bl, Value.ownBlock])
/-- A row that has been read stays where only other blocks turn. -/
theorem row_keep {lo hi lo' hi' b off n c j m c' : Nat} {w w' : World} {r : Option Addr} {rows : List (List Int)} {xs : List Int} (h : Own oII lo hi w [.slice (some ⟨b, off, none⟩) n c] rows) (hc : w.cell? ⟨b, off + j, none⟩ = some (.slice r m c')) (hj : j < n) (hx : rows[j]? = some xs)
    (ht : Turn lo' hi' w w') (hd : hi ≤ lo' ∨ hi' ≤ lo) : Ints w' r m xs := by
  have hb := own_blk h
  have hlt := cell_lt hc
  simp only at hlt
  obtain ⟨b1, o1, r1, m1, q1, x1, ha, hc1, hx1, hi1, _⟩ := (rS_sl ((h.turn ht hd).rd reads_II)).row hj
  simp at ha
  obtain ⟨rfl, rfl⟩ := ha
  rw [ht.cell (p := ⟨b, off + j, none⟩) hlt (by simp only []; omega), hc] at hc1
  simp at hc1
  obtain ⟨rfl, rfl, rfl⟩ := hc1
  have := hx1.out
  rw [hx] at this
  obtain rfl := Option.some.inj this
  exact hi1
theorem bulk_sel {rows : List (List Int)} {cols : List Int} (h1 : rows.length ≤ 8) (h2 : cols.length ≤ 3) : bulk_II (selRows rows cols) ≤ 100 := by
  have h3 : sumBy bulk_I (selRows rows cols) ≤ (selRows rows cols).length * 3 := sumBy_bound (fun r hr => by
    simp only [selRows, List.mem_map] at hr
    obtain ⟨x, _, rfl⟩ := hr
    have := sel_len x cols
    unfold bulk_I; omega)
  rw [selRows_len] at h3
  unfold bulk_II
  rw [selRows_len]
  omega
/-- The counts on the way: those of the first j rows, then c, then noughts. -/
def cl (gs all : List (List Int)) (n j c : Nat) : List Int := countsOf (gs.take j) all ++ ((c : Int) :: List.replicate (n - (j + 1)) 0)
theorem cl_start {gs all : List (List Int)} {n j : Nat} (h : j < n) : countsOf (gs.take j) all ++ List.replicate (n - j) 0 = cl gs all n j 0 := by
  rw [cl, show n - j = (n - (j + 1)) + 1 by omega, List.replicate_succ]; rfl
theorem cl_pos {gs all : List (List Int)} {n j : Nat} (hl : gs.length = n) (h : j < n) : (countsOf (gs.take j) all).length = j := by
  rw [countsOf_len, List.length_take]; omega
theorem cl_len {gs all : List (List Int)} {n j c : Nat} (hl : gs.length = n) (h : j < n) : (cl gs all n j c).length = n := by
  rw [cl, List.length_append, cl_pos hl h, List.length_cons, List.length_replicate]; omega
theorem cl_get {gs all : List (List Int)} {n j c : Nat} (hl : gs.length = n) (h : j < n) : (cl gs all n j c)[j]? = some (c : Int) := by
  rw [cl, List.getElem?_append_right (by rw [cl_pos hl h]; exact Nat.le_refl _), cl_pos hl h, Nat.sub_self]; rfl
theorem cl_set {gs all : List (List Int)} {n j c : Nat} (hl : gs.length = n) (h : j < n) : (cl gs all n j c).set j ((c : Int) + 1) = cl gs all n j (c + 1) := by
  rw [cl, List.set_append_right _ _ (by rw [cl_pos hl h]; exact Nat.le_refl _), cl_pos hl h, Nat.sub_self]; simp [cl]
theorem cl_end {gs all : List (List Int)} {g : List Int} {n j : Nat} (hg : gs[j]? = some g) : cl gs all n j (cntRow g all) = countsOf (gs.take (j + 1)) all ++ List.replicate (n - (j + 1)) 0 := by
  rw [cl, countsOf_step hg]; simp

set_option maxRecDepth 100000 in
set_option maxHeartbeats 4000000 in
theorem groups_impl (v : Value) (cs : List Value) (t : DT) (cols : List Int) (w : World) (ht : rT.rep w cs t) (h' : rI.rep w [v] cols) :
    Calls Try.prog 63 #[.agg cs.toArray, v] w fun e w' => ∃ b1 n1 c1 b2 n2 c2, ∃ wm : World, e = .returned (.tuple #[.slice b1 n1 c1, .slice b2 n2 c2]) ∧ Own oII w.heap.size wm.heap.size w' [.slice b1 n1 c1] (grpV t cols) ∧ Own oI wm.heap.size w'.heap.size w' [.slice b2 n2 c2] (grpN t cols) ∧ w.heap.size ≤ wm.heap.size ∧ wm.heap.size ≤ w'.heap.size ∧ Below w.heap.size w w' := by
  obtain ⟨b, m, d, hv⟩ := rI_form h'
  simp at hv; subst hv
  obtain ⟨ub, un, uc, rfl, hs, hi, g1⟩ := rT_open ht
  have i0 := rI_ints h'
  have t0 := rS_sl g1
  have hl := t0.len
  have hn := t0.small
  have hml := i0.len
  have HVT := Lib.hid (fun W (hW : Below w.heap.size w W) => validT_impl _ t W (rT.mono ht hW))
  obtain ⟨s, ar, rows⟩ := t
  simp only at hs hi g1 HVT t0 hl
  have HK : Hid (colsT (s, ar, rows) cols = (colsB ar cols && validT (s, ar, rows))) := Lib.hid rfl
  have HAR : Hid (validT (s, ar, rows) = true → TOk (s, ar, rows)) := Lib.hid TOk.of
  obtain ⟨V, hV⟩ : ∃ V, validT (s, ar, rows) = V := ⟨_, rfl⟩
  rw [hV] at HVT HK HAR
  have HE0 : Hid (colsT (s, ar, rows) cols = false → grpV (s, ar, rows) cols = [] ∧ grpN (s, ar, rows) cols = []) := Lib.hid (fun h => by simp [grpV, grpN, h])
  have HE1 : Hid (colsT (s, ar, rows) cols = true → grpV (s, ar, rows) cols = canon (selRows rows cols) ∧ grpN (s, ar, rows) cols = countsOf (canon (selRows rows cols)) (selRows rows cols)) := Lib.hid (fun h => by simp [grpV, grpN, h, groups])
  clear hV ht h' g1 hs hi
  have hb0 : Below w.heap.size w w := Below.refl _ _
  go_enter Try.func63, Try.ntmps63
  obtain ⟨w1, hw1⟩ : ∃ W, W = w.alloc (.cells #[.string s, .int .i64 ar, .slice ub un uc] 34) := ⟨_, rfl⟩
  have z1 : Below w.heap.size w w1 := by rw [hw1]; exact (Below.refl _ _).alloc (Nat.le_refl _) _
  have s1 : w1.heap.size = w.heap.size + 1 := by rw [hw1]; simp
  have hb1 := on hb0 z1
  have t_0 : w1.cell? ⟨w.heap.size, 0, none⟩ = some (.string s) := by rw [hw1]; exact box_cell (Below.refl _ _) rfl
  have t_1 : w1.cell? ⟨w.heap.size, 1, none⟩ = some (.int .i64 ar) := by rw [hw1]; exact box_cell (Below.refl _ _) rfl
  have t_2 : w1.cell? ⟨w.heap.size, 2, none⟩ = some (.slice ub un uc) := by rw [hw1]; exact box_cell (Below.refl _ _) rfl
  have raw1_t_0 := t_0
  have raw1_t_1 := t_1
  have raw1_t_2 := t_2
  rw [hw1] at raw1_t_0 raw1_t_1 raw1_t_2
  go_wp2_with fail
  rw [← hw1]
  clear hw1
  clear raw1_t_0 raw1_t_1 raw1_t_2
  refine (HVT.out _ hb1).mono ?_
  rintro e w9 ⟨rfl, z9⟩
  have s2 := z9.size
  have hb2 := on hb1 z9
  replace t_0 := (z9.cell (p := ⟨w.heap.size, 0, none⟩) (by simp only []; omega)).trans t_0
  replace t_1 := (z9.cell (p := ⟨w.heap.size, 1, none⟩) (by simp only []; omega)).trans t_1
  replace t_2 := (z9.cell (p := ⟨w.heap.size, 2, none⟩) (by simp only []; omega)).trans t_2
  cases V with
  | false =>
    obtain ⟨hE1, hE2⟩ := HE0.out (by rw [HK.out, Bool.and_false])
    have H1 := Lib.hid hE1
    have H2 := Lib.hid hE2
    clear hE1 hE2
    go_wp2_with fail
    refine bodyPost_ret (v := .tuple #[.slice none 0 0, .slice none 0 0]) (by simp [results, Try.results63, go_sem]) rfl ⟨_, _, _, _, _, _, w, rfl, by rw [H1.out]; exact own_nil_S.mono (Nat.le_refl _) (Nat.le_refl _), by rw [H2.out]; exact own_nil_S.mono (Nat.le_refl _) (by omega), Nat.le_refl _, by omega, hb2⟩
  | true =>
    have hT := HAR.out rfl
    have hA := hT.ar
    have hr8 := hT.len
    simp only at hA hr8
    obtain ⟨N, rfl⟩ : ∃ N : Nat, ar = (N : Int) := ⟨ar.toNat, by omega⟩
    have hco := columnsOk_any b m d cols (N : Int) w9 (i0.below hb2) ⟨by omega, by omega⟩ (by omega)
    have HCL : Hid (colsB (N : Int) cols = true → (cols.length : Int) ≤ (N : Int)) := Lib.hid (colsB_len' (by omega))
    obtain ⟨q, hq⟩ : ∃ q, colsB (N : Int) cols = q := ⟨_, rfl⟩
    rw [hq] at hco HK HCL
    have HCO := Lib.hid hco
    clear hco hq HVT HAR hT
    go_wp2_with fail
    refine HCO.out.mono ?_
    rintro e w' ⟨rfl, rfl⟩
    cases q with
    | false =>
      obtain ⟨hE1, hE2⟩ := HE0.out (by rw [HK.out]; rfl)
      have H1 := Lib.hid hE1
      have H2 := Lib.hid hE2
      clear hE1 hE2
      go_wp2_with fail
      refine bodyPost_ret (v := .tuple #[.slice none 0 0, .slice none 0 0]) (by simp [results, Try.results63, go_sem]) rfl ⟨_, _, _, _, _, _, w, rfl, by rw [H1.out]; exact own_nil_S.mono (Nat.le_refl _) (Nat.le_refl _), by rw [H2.out]; exact own_nil_S.mono (Nat.le_refl _) (by omega), Nat.le_refl _, by omega, hb2⟩
    | true =>
      obtain ⟨hE1, hE2⟩ := HE1.out (by rw [HK.out]; rfl)
      have H1 := Lib.hid hE1
      have H2 := Lib.hid hE2
      have hm3 := HCL.out rfl
      have hm4 : m ≤ 3 := by omega
      have hun8 : un ≤ 8 := by omega
      have HBU := Lib.hid (bulk_sel (rows := rows) (cols := cols) hr8 (by omega))
      have I0 := Lib.hid (fun W (hW : Below w.heap.size w W) => i0.below hW)
      clear hE1 hE2 HE0 HE1 HK HCL HCO hml i0
      obtain ⟨w3, hw3⟩ : ∃ W, W = w9.alloc (.cells #[] 24) := ⟨_, rfl⟩
      have z3 : Below w9.heap.size w9 w3 := by rw [hw3]; exact (Below.refl _ _).alloc (Nat.le_refl _) _
      have s3 : w3.heap.size = w9.heap.size + 1 := by rw [hw3]; simp
      have hb3 := on hb2 z3
      replace t_0 := (z3.cell (p := ⟨w.heap.size, 0, none⟩) (by simp only []; omega)).trans t_0
      replace t_1 := (z3.cell (p := ⟨w.heap.size, 1, none⟩) (by simp only []; omega)).trans t_1
      replace t_2 := (z3.cell (p := ⟨w.heap.size, 2, none⟩) (by simp only []; omega)).trans t_2
      have ho : ∀ S, Acc 24 oI w9.heap.size S w3.heap.size w3 (.slice (some ⟨w9.heap.size, 0, none⟩) 0 0) [] := fun S => by rw [hw3]; exact Acc.empty (by omega) (by first | (simp; done) | (simp; omega))
      have raw3_t_0 := t_0
      have raw3_t_1 := t_1
      have raw3_t_2 := t_2
      rw [hw3] at raw3_t_0 raw3_t_1 raw3_t_2
      go_wp2_with fail
      rw [← hw3]
      clear hw3
      clear raw3_t_0 raw3_t_1 raw3_t_2
      go_loopw [6, 31] (fun v k wr => ∃ j : Nat, j ≤ un ∧ k = .int .i64 j ∧ Acc 24 oI w9.heap.size w3.heap.size wr.heap.size wr v (selRows (rows.take j) cols) ∧ Turn w9.heap.size (w9.heap.size + 1) w3 wr) (fun _ k _ => un - (intOf k).toNat)
      case atStart => exact ⟨0, Nat.zero_le _, rfl, by rw [List.take_zero]; exact (ho _).wide (Nat.le_refl _) (by omega), turn_refl _ _ _⟩
      case round =>
        obtain ⟨j, hj, rfl, hacc, hdr⟩ := hrel
        have hlc := hdr
        clear ho
        have s4 := hdr.size
        have hb4 := hb3.trans ((hdr.below (by omega)).mono (by omega))
        replace t_0 := (hdr.cell (p := ⟨w.heap.size, 0, none⟩) (by simp only []; omega) (by simp only []; omega)).trans t_0
        replace t_1 := (hdr.cell (p := ⟨w.heap.size, 1, none⟩) (by simp only []; omega) (by simp only []; omega)).trans t_1
        replace t_2 := (hdr.cell (p := ⟨w.heap.size, 2, none⟩) (by simp only []; omega) (by simp only []; omega)).trans t_2
        have hlen : (selRows (rows.take j) cols).length ≤ 8 := by rw [selRows_len]; have := List.length_take_le j rows; omega
        by_cases hlt : j < un
        · obtain ⟨b0, o0, r1, m1, q1, x, rfl, hc, hx, hi, hq1, hq2⟩ := t0.row hlt
          have hclt : b0 < w.heap.size := cell_lt hc
          have c0 : wr.cell? ⟨b0, o0 + j, none⟩ = some (.slice r1 m1 q1) := (hb4.cell (p := ⟨b0, o0 + j, none⟩) hclt).trans hc
          have HX := Lib.hid (fun W (hW : Below w.heap.size w W) => hi.below hW)
          have HS := Lib.hid (selRows_step (cs := cols) hx.out)
          clear hc hx hi hl t0
          go_wp2_with fail
          refine (sel_impl _ _ _ _ _ _ x cols _ (HX.out _ hb4) (I0.out _ hb4) (by omega)).mono ?_
          rintro e w8 ⟨ab, nb, cb, rfl, oy, z8⟩
          have s5 := z8.size
          have hb5 := on hb4 z8
          replace t_0 := (z8.cell (p := ⟨w.heap.size, 0, none⟩) (by simp only []; omega)).trans t_0
          replace t_1 := (z8.cell (p := ⟨w.heap.size, 1, none⟩) (by simp only []; omega)).trans t_1
          replace t_2 := (z8.cell (p := ⟨w.heap.size, 2, none⟩) (by simp only []; omega)).trans t_2
          replace hlc := hlc.trans (turn_below z8 (Nat.le_refl _))
          replace hacc := hacc.below z8 (by omega)
          replace c0 := (z8.cell (p := ⟨b0, o0 + j, none⟩) (by simp only []; omega)).trans c0
          have hone : ∀ z ∈ [Value.slice ab nb cb], z.oneCell' = true := by intro z hz; simp at hz; subst hz; rfl
          go_wp2_with ((at_builtin; refine wpList_acc Try.underlying32 infoI rfl (by decide) (by decide) rfl _ _ _ _ [.slice ab nb cb] (sel x cols) hacc oy hone (by omega) (by omega) (by omega) (by omega) hlc rfl (by omega) (by omega) rfl rfl rfl rfl rfl ?_; intro v' w1 hacc' ht' hsz'))
          rw [← HS.out] at hacc'
          go_roundw
          case rel => exact ⟨j + 1, by omega, by go_num, hacc', ht'⟩
          case measure => simp [intOf]; omega
        · obtain rfl : un = j := by omega
          obtain ⟨wl, rfl⟩ : ∃ W, W = wr := ⟨_, rfl⟩
          obtain ⟨ab, an, ac, rfl⟩ := hacc.form3
          rw [List.take_of_length_le (by omega)] at hacc
          have o1 := hacc.own (B := w9.heap.size) (hi' := wl.heap.size) (Nat.le_refl _) (by omega) (by omega)
          obtain ⟨all, hall⟩ : ∃ all, selRows rows cols = all := ⟨_, rfl⟩
          have hal8 : all.length ≤ 8 := by rw [← hall, selRows_len]; omega
          rw [hall] at o1 H1 H2 HBU
          clear hacc hall hlen t0 hl I0
          clear hlc
          go_wp2_with fail
          refine (sorted_any _ all _ (o1.rd reads_II) (by have := HBU.out; omega)).mono ?_
          rintro e wS ⟨u, rfl, o2, zS⟩
          obtain ⟨gb, gn, gc, rfl⟩ := oII_form1 o2
          have s6 := zS.size
          have hb6 := on hb4 zS
          replace t_0 := (zS.cell (p := ⟨w.heap.size, 0, none⟩) (by simp only []; omega)).trans t_0
          replace t_1 := (zS.cell (p := ⟨w.heap.size, 1, none⟩) (by simp only []; omega)).trans t_1
          replace t_2 := (zS.cell (p := ⟨w.heap.size, 2, none⟩) (by simp only []; omega)).trans t_2
          replace o1 := o1.below zS (by omega)
          obtain ⟨gs, hgs⟩ : ∃ gs, canon all = gs := ⟨_, rfl⟩
          have hgl8 : gs.length ≤ 8 := by rw [← hgs]; have := canon_len all; omega
          rw [hgs] at o2 H1 H2
          have hgl := (rS_sl (o2.rd reads_II)).len
          have hal := (rS_sl (o1.rd reads_II)).len
          have HGL := Lib.hid hgl
          have HAL := Lib.hid hal
          have hgn : gn ≤ 8 := by omega
          have han : an ≤ 8 := by omega
          clear hgs hgl hal
          go_wp2_with (at_make; refine wpList_mk _ _ gn (by omega) rfl rfl rfl rfl ?_; intro wM hown zM hzM; have s7 := zM.size; have hb7 := on hb6 zM; replace t_0 := (zM.cell (p := ⟨w.heap.size, 0, none⟩) (by simp only []; omega)).trans t_0; replace t_1 := (zM.cell (p := ⟨w.heap.size, 1, none⟩) (by simp only []; omega)).trans t_1; replace t_2 := (zM.cell (p := ⟨w.heap.size, 2, none⟩) (by simp only []; omega)).trans t_2; replace o1 := o1.below zM (by omega); replace o2 := o2.below zM (by omega))
          have hwM : wM.heap.size = wM.heap.size := rfl
          clear hwM
          have H0 : Hid (List.replicate gn (0 : Int) = countsOf (gs.take 0) all ++ List.replicate (gn - 0) 0) := Lib.hid (by simp [countsOf])
          go_loopw [53] (fun k wr => ∃ j : Nat, j ≤ gn ∧ k = .int .i64 j ∧ wr.ownsRow wS.heap.size 3 1 (.slice (some ⟨wS.heap.size, 0, none⟩) gn gn) gn ((countsOf (gs.take j) all ++ List.replicate (gn - j) 0).map (Value.int .i64)) ∧ Turn wS.heap.size (wS.heap.size + 1) wM wr) (fun k _ => gn - (intOf k).toNat)
          case atStart => exact ⟨0, Nat.zero_le _, rfl, by rw [← H0.out]; exact hown, turn_refl _ _ _⟩
          case round =>
            obtain ⟨j, hj, rfl, hcl, hdr⟩ := hrel
            have hlc := hdr
            obtain ⟨wo, rfl⟩ : ∃ W, W = wr := ⟨_, rfl⟩
            clear hown H0
            have s8 := hdr.size
            have hb8 := hb7.trans ((hdr.below (by omega)).mono (by omega))
            replace t_0 := (hdr.cell (p := ⟨w.heap.size, 0, none⟩) (by simp only []; omega) (by simp only []; omega)).trans t_0
            replace t_1 := (hdr.cell (p := ⟨w.heap.size, 1, none⟩) (by simp only []; omega) (by simp only []; omega)).trans t_1
            replace t_2 := (hdr.cell (p := ⟨w.heap.size, 2, none⟩) (by simp only []; omega) (by simp only []; omega)).trans t_2
            replace o1 := o1.turn hdr (by omega)
            replace o2 := o2.turn hdr (by omega)
            by_cases hlt : j < gn
            · obtain ⟨b0, o0, r1, m1, q1, g, rfl, hc, hx, hig, _, _⟩ := (rS_sl (o2.rd reads_II)).row hlt
              have c0 : wo.cell? ⟨b0, o0 + j, none⟩ = some (.slice r1 m1 q1) := hc
              have o2b := o2
              have hb0r := (own_blk o2).2
              have hb0lt := cell_lt hc
              simp only at hb0lt
              have hkg := fun (W : World) (hW : Turn wS.heap.size (wS.heap.size + 1) wo W) => row_keep o2b hc hlt hx.out hW (by omega)
              have HKG := Lib.hid hkg
              have HEND := Lib.hid (cl_end (all := all) (n := gn) hx.out)
              rw [cl_start hlt] at hcl
              have HST : Hid (0 = cntRow g (all.take 0)) := Lib.hid (by simp [cntRow])
              clear hkg o2b hc hx hig
              go_wp2_with fail
              go_loopw [60] (fun k wr => ∃ i c : Nat, i ≤ an ∧ k = .int .i64 i ∧ Hid (c = cntRow g (all.take i)) ∧ c ≤ i ∧ wr.ownsRow wS.heap.size 3 1 (.slice (some ⟨wS.heap.size, 0, none⟩) gn gn) gn ((cl gs all gn j c).map (Value.int .i64)) ∧ Turn wS.heap.size (wS.heap.size + 1) wM wr ∧ Turn wS.heap.size (wS.heap.size + 1) wo wr) (fun k _ => an - (intOf k).toNat)
              case atStart => exact ⟨0, 0, Nat.zero_le _, rfl, HST.out, Nat.le_refl _, hcl, hlc, turn_refl _ _ _⟩
              case round =>
                obtain ⟨i, c, hi, rfl, hC, hci, hcl2, hdr2, hdr3⟩ := hrel
                clear hcl HST
                have s9 := hdr3.size
                have hb9 := hb8.trans ((hdr3.below (by omega)).mono (by omega))
                replace t_0 := (hdr3.cell (p := ⟨w.heap.size, 0, none⟩) (by simp only []; omega) (by simp only []; omega)).trans t_0
                replace t_1 := (hdr3.cell (p := ⟨w.heap.size, 1, none⟩) (by simp only []; omega) (by simp only []; omega)).trans t_1
                replace t_2 := (hdr3.cell (p := ⟨w.heap.size, 2, none⟩) (by simp only []; omega) (by simp only []; omega)).trans t_2
                replace o1 := o1.turn hdr3 (by omega)
                replace o2 := o2.turn hdr3 (by omega)
                replace c0 := (hdr3.cell (p := ⟨b0, o0 + j, none⟩) (by simp only []; omega) (by simp only []; omega)).trans c0
                by_cases hlti : i < an
                · obtain ⟨b3, o3, r3, m3, q3, x, rfl, hc3, hx3, hix, _, _⟩ := (rS_sl (o1.rd reads_II)).row hlti
                  have c3 := hc3
                  have hb3lt := cell_lt hc3
                  simp only at hb3lt
                  have hb3r := (own_blk o1).2
                  have hc8 : c ≤ 8 := by omega
                  obtain ⟨t, htt⟩ : ∃ t, decide (g = x) = t := ⟨_, rfl⟩
                  have hce := equalInts r1 r3 m1 m3 q1 q3 g x wr (HKG.out wr hdr3) hix
                  rw [htt] at hce
                  have HCE := Lib.hid hce
                  have HCT := Lib.hid (cntRow_take (g := g) hx3.out)
                  have HIX : Hid (cntRow g (all.take (i + 1)) = c + (if x = g then 1 else 0)) := Lib.hid (by rw [HCT.out, ← hC.out])
                  clear hce hc3 hx3 hix hC HCT
                  cases t with
                  | false =>
                    have HN : Hid (c = cntRow g (all.take (i + 1))) := Lib.hid (by rw [HIX.out, if_neg (fun h => by rw [h] at htt; simp at htt)]; rfl)
                    clear htt HIX
                    go_wp2_with fail
                    refine (HCE.out).mono ?_
                    rintro e w10 ⟨rfl, z10⟩
                    replace z10 : Below wr.heap.size wr w10 := z10.below _
                    have s11 := z10.size
                    have hb11 := on hb9 z10
                    replace t_0 := (z10.cell (p := ⟨w.heap.size, 0, none⟩) (by simp only []; omega)).trans t_0
                    replace t_1 := (z10.cell (p := ⟨w.heap.size, 1, none⟩) (by simp only []; omega)).trans t_1
                    replace t_2 := (z10.cell (p := ⟨w.heap.size, 2, none⟩) (by simp only []; omega)).trans t_2
                    replace o1 := o1.below z10 (by omega)
                    replace o2 := o2.below z10 (by omega)
                    replace c0 := (z10.cell (p := ⟨b0, o0 + j, none⟩) (by simp only []; omega)).trans c0
                    replace c3 := (z10.cell (p := ⟨b3, o3 + i, none⟩) (by simp only []; omega)).trans c3
                    have HR := Lib.hid (own_below hcl2 z10 (Nat.le_refl _))
                    replace hdr2 := hdr2.trans (turn_below z10 (Nat.le_refl _))
                    replace hdr3 := hdr3.trans (turn_below z10 (Nat.le_refl _))
                    clear hcl2
                    go_wp2_with fail
                    go_roundw
                    case rel => exact ⟨i + 1, c, by omega, by go_num, HN.out, by omega, HR.out, hdr2, hdr3⟩
                    case measure => simp [intOf]; omega
                  | true =>
                    have HN : Hid (c + 1 = cntRow g (all.take (i + 1))) := Lib.hid (by rw [HIX.out, if_pos (of_decide_eq_true htt).symm])
                    clear htt HIX
                    go_wp2_with fail
                    refine (HCE.out).mono ?_
                    rintro e w12 ⟨rfl, z12⟩
                    replace z12 : Below wr.heap.size wr w12 := z12.below _
                    have s13 := z12.size
                    have hb13 := on hb9 z12
                    replace t_0 := (z12.cell (p := ⟨w.heap.size, 0, none⟩) (by simp only []; omega)).trans t_0
                    replace t_1 := (z12.cell (p := ⟨w.heap.size, 1, none⟩) (by simp only []; omega)).trans t_1
                    replace t_2 := (z12.cell (p := ⟨w.heap.size, 2, none⟩) (by simp only []; omega)).trans t_2
                    replace o1 := o1.below z12 (by omega)
                    replace o2 := o2.below z12 (by omega)
                    replace c0 := (z12.cell (p := ⟨b0, o0 + j, none⟩) (by simp only []; omega)).trans c0
                    replace c3 := (z12.cell (p := ⟨b3, o3 + i, none⟩) (by simp only []; omega)).trans c3
                    have hcl3 := own_below hcl2 z12 (Nat.le_refl _)
                    replace hdr2 := hdr2.trans (turn_below z12 (Nat.le_refl _))
                    replace hdr3 := hdr3.trans (turn_below z12 (Nat.le_refl _))
                    clear hcl2
                    have cj : w12.cell? ⟨wS.heap.size, j, none⟩ = some (.int .i64 (c : Int)) := by
                      rw [hcl3.cellAt j (by omega), List.getElem?_map, cl_get HGL.out hlt]; rfl
                    have hfz := hcl3.frozenAt j
                    have HR : Hid ((w12.setCell ⟨wS.heap.size, j, none⟩ (.int .i64 ((c : Int) + 1))).ownsRow wS.heap.size 3 1 (.slice (some ⟨wS.heap.size, 0, none⟩) gn gn) gn ((cl gs all gn j (c + 1)).map (Value.int .i64))) := Lib.hid (by
                      have h9 := (hcl3.stored j (.int .i64 ((c : Int) + 1))).1
                      rw [← cl_set HGL.out hlt, List.map_set]; exact h9)
                    clear hcl3
                    go_wp2_with fail
                    go_roundw
                    case rel => exact ⟨i + 1, c + 1, by omega, by go_num, HN.out, by omega, HR.out, hdr2.setIn (p := ⟨wS.heap.size, j, none⟩) (Nat.le_refl _) (Nat.lt_succ_self _) _, hdr3.setIn (p := ⟨wS.heap.size, j, none⟩) (Nat.le_refl _) (Nat.lt_succ_self _) _⟩
                    case measure => simp [intOf]; omega
                · have HN : Hid (cl gs all gn j c = countsOf (gs.take (j + 1)) all ++ List.replicate (gn - (j + 1)) 0) := Lib.hid (by
                    rw [hC.out, List.take_of_length_le (by have := HAL.out; omega), HEND.out])
                  rw [HN.out] at hcl2
                  have HR := Lib.hid hcl2
                  clear hcl2 hC
                  go_wp2_with fail
                  go_roundw
                  case rel => exact ⟨j + 1, by omega, by go_num, HR.out, hdr2⟩
                  case measure => simp [intOf]; omega
            · have hjn : j = gn := by omega
              have e : countsOf (gs.take j) all ++ List.replicate (gn - j) 0 = countsOf gs all := by
                rw [List.take_of_length_le (by have := HGL.out; omega), show gn - j = 0 by omega]; simp
              rw [e] at hcl
              have HO : Hid (OwnInts wS.heap.size wo (.slice (some ⟨wS.heap.size, 0, none⟩) gn gn) gn (countsOf gs all)) := Lib.hid ⟨by rw [countsOf_len]; exact HGL.out, hcl, fun y hy => by
                simp only [countsOf, List.mem_map] at hy
                obtain ⟨z, _, rfl⟩ := hy
                have := cntRow_le z all
                exact ⟨by omega, by omega⟩⟩
              have HO2 := Lib.hid (o2.mono (lo' := w.heap.size) (hi' := wS.heap.size) (by omega) (by omega))
              clear hcl e o2 o1
              go_wp2_with fail
              refine bodyPost_ret (v := .tuple #[.slice gb gn gc, .slice (some ⟨wS.heap.size, 0, none⟩) gn gn]) (by simp [results, Try.results63, go_sem]) rfl ⟨_, _, _, _, _, _, wS, rfl, by rw [H1.out]; exact HO2.out, by rw [H2.out]; exact HO.out.own, by omega, by omega, hb8⟩

end Go.Proofs.Ytbkoddikfpkocaa

/- Contracts: groups of a table and their counts, by the reference. -/
namespace Go.Proofs.Ytbkoddikfpkocaa
open Go.RowKit
set_option linter.unusedVariables false
set_option linter.unusedSimpArgs false
set_option synthInstance.maxSize 2000
set_option synthInstance.maxHeartbeats 400000

theorem Acc.turn {α : Type} {E : TypeId} {o : OS α} {lo S hi lo' hi' : Nat} {w w' : World} {v : Value} {xs : List α} (h : Acc E o lo S hi w v xs) (ht : Turn lo' hi' w w') (h1 : lo < lo' ∨ hi' ≤ lo) (h2 : hi' ≤ S) (hs : hi ≤ w.heap.size) : Acc E o lo S hi w' v xs := by
  obtain ⟨fp, h3, h4, h5⟩ := h
  exact ⟨fp, (O.slice E o).frame h3 (fun k hk => ht.block k (by have := (h5 k hk).2; omega) (by have := (h5 k hk).1; omega)), h4, h5⟩
theorem Acc.rdII {lo S hi : Nat} {w : World} {v : Value} {xs : List (List Int)} (h : Acc 24 oI lo S hi w v xs) : rII.rep w [v] xs := (h.own (B := 0) (Nat.zero_le _) (Nat.zero_le _) (Nat.le_refl _)).rd reads_II
theorem canon_step {rows : List (List Int)} {cs r : List Int} {j : Nat} (h : rows[j]? = some r) : canon (selRows (rows.take (j + 1)) cs) = putL (sel r cs) false (canon (selRows (rows.take j) cs)) := by
  rw [selRows_step h, canon_snoc]

set_option maxRecDepth 100000 in
set_option maxHeartbeats 4000000 in
theorem groups_spec (v : Value) (cs : List Value) (t : DT) (cols : List Int) (w : World) (ht : rT.rep w cs t) (h' : rI.rep w [v] cols) :
    Calls Try.prog 61 #[.agg cs.toArray, v] w fun e w' => ∃ b1 n1 c1 b2 n2 c2, e = .returned (.tuple #[.slice b1 n1 c1, .slice b2 n2 c2]) ∧ Own oII w.heap.size w'.heap.size w' [.slice b1 n1 c1] (grpV t cols) ∧ Own oI w.heap.size w'.heap.size w' [.slice b2 n2 c2] (grpN t cols) ∧ Below w.heap.size w w' := by
  obtain ⟨b, m, d, hv⟩ := rI_form h'
  simp at hv; subst hv
  obtain ⟨ub, un, uc, rfl, hs, hi, g1⟩ := rT_open ht
  have i0 := rI_ints h'
  have t0 := rS_sl g1
  have hl := t0.len
  have hn := t0.small
  have hml := i0.len
  have HVT := Lib.hid (fun W (hW : Below w.heap.size w W) => l10Cols_any _ t b m d cols W (rT.mono ht hW) (i0.below hW))
  obtain ⟨s, ar, rows⟩ := t
  simp only at hs hi g1 HVT t0 hl
  have HAR : Hid (colsT (s, ar, rows) cols = true → TOk (s, ar, rows) ∧ colsB ar cols = true) := Lib.hid (fun h => by rw [colsT, Bool.and_eq_true] at h; exact ⟨TOk.of h.2, h.1⟩)
  have HE0 : Hid (colsT (s, ar, rows) cols = false → grpV (s, ar, rows) cols = [] ∧ grpN (s, ar, rows) cols = []) := Lib.hid (fun h => by simp [grpV, grpN, h])
  have HE1 : Hid (colsT (s, ar, rows) cols = true → grpV (s, ar, rows) cols = canon (selRows rows cols) ∧ grpN (s, ar, rows) cols = countsOf (canon (selRows rows cols)) (selRows rows cols)) := Lib.hid (fun h => by simp [grpV, grpN, h, groups])
  obtain ⟨V, hV⟩ : ∃ V, colsT (s, ar, rows) cols = V := ⟨_, rfl⟩
  rw [hV] at HAR HE0 HE1
  have HVT2 : Hid (∀ W, Below w.heap.size w W → Calls Try.prog 133 #[.agg #[.string s, .int .i64 ar, .slice ub un uc], .slice b m d] W fun e w' => e = .returned (.bool V) ∧ Below W.heap.size W w') := Lib.hid (fun W hW => by rw [← hV]; exact HVT.out W hW)
  clear hV ht h' g1 hs hi HVT
  have hb0 : Below w.heap.size w w := Below.refl _ _
  go_enter Try.func61, Try.ntmps61
  obtain ⟨w1, hw1⟩ : ∃ W, W = w.alloc (.cells #[.string s, .int .i64 ar, .slice ub un uc] 34) := ⟨_, rfl⟩
  have z1 : Below w.heap.size w w1 := by rw [hw1]; exact (Below.refl _ _).alloc (Nat.le_refl _) _
  have s1 : w1.heap.size = w.heap.size + 1 := by rw [hw1]; simp
  have hb1 := on hb0 z1
  have t_0 : w1.cell? ⟨w.heap.size, 0, none⟩ = some (.string s) := by rw [hw1]; exact box_cell (Below.refl _ _) rfl
  have t_1 : w1.cell? ⟨w.heap.size, 1, none⟩ = some (.int .i64 ar) := by rw [hw1]; exact box_cell (Below.refl _ _) rfl
  have t_2 : w1.cell? ⟨w.heap.size, 2, none⟩ = some (.slice ub un uc) := by rw [hw1]; exact box_cell (Below.refl _ _) rfl
  have raw1_t_0 := t_0
  have raw1_t_1 := t_1
  have raw1_t_2 := t_2
  rw [hw1] at raw1_t_0 raw1_t_1 raw1_t_2
  obtain ⟨w2, hw2⟩ : ∃ W, W = w1.alloc (.cells #[] 24) := ⟨_, rfl⟩
  have z2 : Below w1.heap.size w1 w2 := by rw [hw2]; exact (Below.refl _ _).alloc (Nat.le_refl _) _
  have s2 : w2.heap.size = w1.heap.size + 1 := by rw [hw2]; simp
  have hb2 := on hb1 z2
  replace t_0 := (z2.cell (p := ⟨w.heap.size, 0, none⟩) (by simp only []; omega)).trans t_0
  replace t_1 := (z2.cell (p := ⟨w.heap.size, 1, none⟩) (by simp only []; omega)).trans t_1
  replace t_2 := (z2.cell (p := ⟨w.heap.size, 2, none⟩) (by simp only []; omega)).trans t_2
  have he1 : ∀ S, Acc 24 oI w1.heap.size S w2.heap.size w2 (.slice (some ⟨w.heap.size + 1, 0, none⟩) 0 0) [] := fun S => by rw [hw2]; exact Acc.empty (by omega) (by first | (simp; done) | (simp; omega))
  have raw2_t_0 := t_0
  have raw2_t_1 := t_1
  have raw2_t_2 := t_2
  rw [hw2, hw1] at raw2_t_0 raw2_t_1 raw2_t_2
  obtain ⟨w3, hw3⟩ : ∃ W, W = w2.alloc (.cells #[] 3) := ⟨_, rfl⟩
  have z3 : Below w2.heap.size w2 w3 := by rw [hw3]; exact (Below.refl _ _).alloc (Nat.le_refl _) _
  have s3 : w3.heap.size = w2.heap.size + 1 := by rw [hw3]; simp
  have hb3 := on hb2 z3
  replace t_0 := (z3.cell (p := ⟨w.heap.size, 0, none⟩) (by simp only []; omega)).trans t_0
  replace t_1 := (z3.cell (p := ⟨w.heap.size, 1, none⟩) (by simp only []; omega)).trans t_1
  replace t_2 := (z3.cell (p := ⟨w.heap.size, 2, none⟩) (by simp only []; omega)).trans t_2
  replace he1 := fun S => (he1 S).below z3 (by omega)
  have he2 : ∀ S, Acc 3 O.int w2.heap.size S w3.heap.size w3 (.slice (some ⟨w.heap.size + 1 + 1, 0, none⟩) 0 0) [] := fun S => by rw [hw3]; exact Acc.empty (by omega) (by first | (simp; done) | (simp; omega))
  have raw3_t_0 := t_0
  have raw3_t_1 := t_1
  have raw3_t_2 := t_2
  rw [hw3, hw2, hw1] at raw3_t_0 raw3_t_1 raw3_t_2
  go_wp2_with fail
  rw [← hw1]
  rw [← hw2]
  rw [← hw3]
  clear hw3 hw2 hw1
  clear raw1_t_0 raw1_t_1 raw1_t_2 raw2_t_0 raw2_t_1 raw2_t_2 raw3_t_0 raw3_t_1 raw3_t_2
  refine (HVT2.out _ hb3).mono ?_
  rintro e w9 ⟨rfl, z9⟩
  have s4 := z9.size
  have hb4 := on hb3 z9
  replace t_0 := (z9.cell (p := ⟨w.heap.size, 0, none⟩) (by simp only []; omega)).trans t_0
  replace t_1 := (z9.cell (p := ⟨w.heap.size, 1, none⟩) (by simp only []; omega)).trans t_1
  replace t_2 := (z9.cell (p := ⟨w.heap.size, 2, none⟩) (by simp only []; omega)).trans t_2
  replace he1 := fun S => (he1 S).below z9 (by omega)
  replace he2 := fun S => (he2 S).below z9 (by omega)
  cases V with
  | false =>
    obtain ⟨hE1, hE2⟩ := HE0.out rfl
    have H1 := Lib.hid hE1
    have H2 := Lib.hid hE2
    have HO1 := Lib.hid ((he1 w9.heap.size).own (B := w.heap.size) (hi' := w9.heap.size) (by omega) (by omega) (by omega))
    have HO2 := Lib.hid ((he2 w9.heap.size).own (B := w.heap.size) (hi' := w9.heap.size) (by omega) (by omega) (by omega))
    clear hE1 hE2 he1 he2
    go_wp2_with fail
    refine bodyPost_ret (v := .tuple #[.slice (some ⟨w.heap.size + 1, 0, none⟩) 0 0, .slice (some ⟨w.heap.size + 1 + 1, 0, none⟩) 0 0]) (by simp [results, Try.results61, go_sem]) rfl ⟨_, _, _, _, _, _, rfl, by rw [H1.out]; exact HO1.out, by rw [H2.out]; exact HO2.out, hb4⟩
  | true =>
    obtain ⟨hT, hcb⟩ := HAR.out rfl
    have hA := hT.ar
    have hr8 := hT.len
    simp only at hA hr8
    have hm3 := colsB_len' (by omega) hcb
    have hcl3 : cols.length ≤ 3 := by omega
    obtain ⟨hE1, hE2⟩ := HE1.out rfl
    have H1 := Lib.hid hE1
    have H2 := Lib.hid hE2
    have hm4 : m ≤ 3 := by omega
    have hun8 : un ≤ 8 := by omega
    have I0 := Lib.hid (fun W (hW : Below w.heap.size w W) => i0.below hW)
    clear hE1 hE2 HE0 HE1 HVT2 HAR hml i0 hT hcb hm3
    go_wp2_with fail
    go_loopw [6, 8] (fun v k wr => ∃ j : Nat, j ≤ un ∧ k = .int .i64 j ∧ Acc 24 oI w1.heap.size w9.heap.size wr.heap.size wr v (canon (selRows (rows.take j) cols)) ∧ Below w9.heap.size w9 wr) (fun _ k _ => un - (intOf k).toNat)
    case atStart => exact ⟨0, Nat.zero_le _, rfl, by rw [List.take_zero]; exact (he1 _).wide (Nat.le_refl _) (by omega), Below.refl _ _⟩
    case round =>
      obtain ⟨j, hj, rfl, hacc, hdr⟩ := hrel
      have hlc := hdr
      clear he1
      have s5 := hdr.size
      have hb5 := on hb4 hdr
      replace t_0 := (hdr.cell (p := ⟨w.heap.size, 0, none⟩) (by simp only []; omega)).trans t_0
      replace t_1 := (hdr.cell (p := ⟨w.heap.size, 1, none⟩) (by simp only []; omega)).trans t_1
      replace t_2 := (hdr.cell (p := ⟨w.heap.size, 2, none⟩) (by simp only []; omega)).trans t_2
      replace he2 := fun S => (he2 S).below hdr (by omega)
      have hclen : (canon (selRows (rows.take j) cols)).length ≤ 8 := by have := canon_len (selRows (rows.take j) cols); rw [selRows_len] at this; have := List.length_take_le j rows; omega
      have hcrow : ∀ (i : Nat) (x : List Int), (canon (selRows (rows.take j) cols))[i]? = some x → x.length ≤ 3 := fun i x hx => by
        have h9 := canon_mem.1 (List.mem_of_getElem? hx)
        simp only [selRows, List.mem_map] at h9
        obtain ⟨y, _, rfl⟩ := h9
        have := sel_len y cols; omega
      by_cases hlt : j < un
      · obtain ⟨b0, o0, r1, m1, q1, x, rfl, hc, hx, hi, hq1, hq2⟩ := t0.row hlt
        have hclt : b0 < w.heap.size := cell_lt hc
        have c0 : wr.cell? ⟨b0, o0 + j, none⟩ = some (.slice r1 m1 q1) := (hb5.cell (p := ⟨b0, o0 + j, none⟩) hclt).trans hc
        have HX := Lib.hid (fun W (hW : Below w.heap.size w W) => hi.below hW)
        have HS := Lib.hid (canon_step (cs := cols) hx.out)
        have HCR := Lib.hid hcrow
        clear hc hx hi hl t0 hcrow
        go_wp2_with fail
        refine (sel_spec _ _ _ _ _ _ x cols _ (HX.out _ hb5) (I0.out _ hb5) (by omega)).mono ?_
        rintro e w8 ⟨ab, nb, cb, rfl, oy, z8⟩
        have s6 := z8.size
        have hb6 := on hb5 z8
        replace t_0 := (z8.cell (p := ⟨w.heap.size, 0, none⟩) (by simp only []; omega)).trans t_0
        replace t_1 := (z8.cell (p := ⟨w.heap.size, 1, none⟩) (by simp only []; omega)).trans t_1
        replace t_2 := (z8.cell (p := ⟨w.heap.size, 2, none⟩) (by simp only []; omega)).trans t_2
        replace he2 := fun S => (he2 S).below z8 (by omega)
        replace hlc := on hlc z8
        replace c0 := (z8.cell (p := ⟨b0, o0 + j, none⟩) (by simp only []; omega)).trans c0
        replace hacc := hacc.below z8 (by omega)
        obtain ⟨va, vn, vc, rfl⟩ := hacc.form3
        have hxl := sel_len x cols
        have HSR : Hid (rI.rep w8 [.slice ab nb cb] (sel x cols)) := Lib.hid (oy.rd reads_I)
        clear oy
        go_wp2_with fail
        refine (l4Put_any _ _ _ (sel x cols) _ hacc.rdII HSR.out (by omega) (fun i y hy => by have := HCR.out i y hy; omega) (by omega)).mono ?_
        rintro e wP ⟨pa, pn, pc, rfl, op, zP⟩
        have sP := zP.size
        replace hlc := on hlc zP
        rw [← HS.out] at op
        go_wp2_with fail
        go_roundw
        case rel => exact ⟨j + 1, by omega, by go_num, (Acc.of op).wide (by omega) (Nat.le_refl _), hlc⟩
        case measure => simp [intOf]; omega
      · obtain rfl : un = j := by omega
        obtain ⟨wl, rfl⟩ : ∃ W, W = wr := ⟨_, rfl⟩
        rw [List.take_of_length_le (by omega)] at hacc
        obtain ⟨va, vn, vc, rfl⟩ := hacc.form3
        obtain ⟨all, hall⟩ : ∃ all, selRows rows cols = all := ⟨_, rfl⟩
        have HALL : Hid (∀ (i : Nat) (x : List Int), rows[i]? = some x → all[i]? = some (sel x cols)) := Lib.hid (fun i x h => by rw [← hall]; exact selRows_get h)
        have hal : all.length = un := by rw [← hall, selRows_len]; exact hl
        rw [hall] at hacc H1 H2
        obtain ⟨gs, hgs⟩ : ∃ gs, canon all = gs := ⟨_, rfl⟩
        rw [hgs] at hacc H1 H2
        have hgl := (rS_sl hacc.rdII).len
        have hgl8 : gs.length ≤ 8 := by rw [← hgs]; have := canon_len all; omega
        have hvn : vn ≤ 8 := by omega
        have HAL := Lib.hid hal
        have HGL := Lib.hid hgl
        clear hall hgs hclen hcrow hal hl hgl
        clear hlc
        go_wp2_with fail
        go_loopw [7, 11] (fun v k wr => ∃ j : Nat, j ≤ vn ∧ k = .int .i64 j ∧ Acc 3 O.int w2.heap.size wl.heap.size wr.heap.size wr v (countsOf (gs.take j) all) ∧ Turn w2.heap.size (w2.heap.size + 1) wl wr) (fun _ k _ => vn - (intOf k).toNat)
        case atStart => exact ⟨0, Nat.zero_le _, rfl, by rw [List.take_zero]; exact (he2 _).wide (Nat.le_refl _) (by omega), turn_refl _ _ _⟩
        case round =>
          obtain ⟨j, hj, rfl, hcc, hdr⟩ := hrel
          have hld := hdr
          clear he2
          obtain ⟨wo, rfl⟩ : ∃ W, W = wr := ⟨_, rfl⟩
          replace hacc := Acc.turn hacc hdr (show w1.heap.size < w2.heap.size ∨ w2.heap.size + 1 ≤ w1.heap.size by omega) (show w2.heap.size + 1 ≤ w9.heap.size by omega) (Nat.le_refl _)
          have s7 := hdr.size
          have hb7 := hb5.trans ((hdr.below (by omega)).mono (by omega))
          replace t_0 := (hdr.cell (p := ⟨w.heap.size, 0, none⟩) (by simp only []; omega) (by simp only []; omega)).trans t_0
          replace t_1 := (hdr.cell (p := ⟨w.heap.size, 1, none⟩) (by simp only []; omega) (by simp only []; omega)).trans t_1
          replace t_2 := (hdr.cell (p := ⟨w.heap.size, 2, none⟩) (by simp only []; omega) (by simp only []; omega)).trans t_2
          by_cases hlt : j < vn
          · obtain ⟨b0, o0, r1, m1, q1, g, rfl, hc, hx, hig, _, _⟩ := (rS_sl hacc.rdII).row hlt
            have c0 := hc
            have hb0lt := cell_lt hc
            simp only at hb0lt
            have HIG := Lib.hid (fun W (hW : Below wo.heap.size wo W) => hig.below hW)
            have HS := Lib.hid (countsOf_step (all := all) hx.out)
            have H0 : Hid (cntRow g all = 0 + cntRow g (all.drop 0)) := Lib.hid (by simp)
            have hcl8 : (countsOf (gs.take j) all).length ≤ 8 := by rw [countsOf_len]; have := List.length_take_le j gs; omega
            clear hc hx hig
            have hle0 : Below wo.heap.size wo wo := Below.refl _ _
            go_wp2_with fail
            go_loopw [12, 13] (fun n i wr => ∃ i' c : Nat, i' ≤ un ∧ i = .int .i64 i' ∧ n = .int .i64 c ∧ c ≤ i' ∧ Hid (cntRow g all = c + cntRow g (all.drop i')) ∧ Below wo.heap.size wo wr) (fun _ i _ => un - (intOf i).toNat)
            case atStart => exact ⟨0, 0, Nat.zero_le _, rfl, rfl, Nat.le_refl _, H0.out, Below.refl _ _⟩
            case round =>
              obtain ⟨i, c, hi, rfl, rfl, hci, hC, hdr2⟩ := hrel
              have hle := hdr2
              clear H0 hle0
              have s8 := hdr2.size
              have hb8 := on hb7 hdr2
              replace t_0 := (hdr2.cell (p := ⟨w.heap.size, 0, none⟩) (by simp only []; omega)).trans t_0
              replace t_1 := (hdr2.cell (p := ⟨w.heap.size, 1, none⟩) (by simp only []; omega)).trans t_1
              replace t_2 := (hdr2.cell (p := ⟨w.heap.size, 2, none⟩) (by simp only []; omega)).trans t_2
              replace hacc := hacc.below hdr2 (by omega)
              replace c0 := (hdr2.cell (p := ⟨b0, o0 + j, none⟩) (by simp only []; omega)).trans c0
              replace hcc := hcc.below hdr2 (by omega)
              replace hld := hld.trans (turn_below hdr2 (Nat.le_refl _))
              by_cases hlti : i < un
              · obtain ⟨b3, o3, r3, m3, q3, x, rfl, hc3, hx3, hi3, _, _⟩ := t0.row hlti
                have hclt3 : b3 < w.heap.size := cell_lt hc3
                have c3 : wr.cell? ⟨b3, o3 + i, none⟩ = some (.slice r3 m3 q3) := (hb8.cell (p := ⟨b3, o3 + i, none⟩) hclt3).trans hc3
                have HX := Lib.hid (fun W (hW : Below w.heap.size w W) => hi3.below hW)
                obtain ⟨d, hd⟩ : ∃ d, d = cmpRows (sel x cols) g := ⟨_, rfl⟩
                have hrng : d = -1 ∨ d = 0 ∨ d = 1 := by rw [hd]; exact cmpRows_rng _ _
                have HC : Hid (cntRow g all = c + ((if d = 0 then 1 else 0) + cntRow g (all.drop (i + 1)))) := Lib.hid (by
                  rw [hC.out, cntRow_at (HALL.out i x hx3.out), hd]
                  by_cases e : sel x cols = g
                  · rw [if_pos e, if_pos ((cmpRows_zero _ _).2 e)]
                  · rw [if_neg e, if_neg (fun h => e ((cmpRows_zero _ _).1 h))])
                have HCMP : Hid (∀ (ab : Option Addr) (nb cb : Nat) (W : World), Ints W ab nb (sel x cols) → Below wo.heap.size wo W → Calls Try.prog 104 #[.slice ab nb cb, .slice r1 m1 q1] W fun e w' => e = .returned (.int .i64 d) ∧ Drew W w') := Lib.hid (fun ab nb cb W h1 h2 => by rw [hd]; exact cmp_spec ab r1 nb m1 cb q1 _ g W h1 (HIG.out W h2))
                clear hc3 hx3 hi3 t0 hd hC
                go_wp2_with fail
                refine (sel_spec _ _ _ _ _ _ x cols _ (HX.out _ hb8) (I0.out _ hb8) (by omega)).mono ?_
                rintro e w8 ⟨ab, nb, cb, rfl, oy, z8⟩
                have s9 := z8.size
                have hb9 := on hb8 z8
                replace t_0 := (z8.cell (p := ⟨w.heap.size, 0, none⟩) (by simp only []; omega)).trans t_0
                replace t_1 := (z8.cell (p := ⟨w.heap.size, 1, none⟩) (by simp only []; omega)).trans t_1
                replace t_2 := (z8.cell (p := ⟨w.heap.size, 2, none⟩) (by simp only []; omega)).trans t_2
                replace hacc := hacc.below z8 (by omega)
                replace c0 := (z8.cell (p := ⟨b0, o0 + j, none⟩) (by simp only []; omega)).trans c0
                replace hcc := hcc.below z8 (by omega)
                replace hld := hld.trans (turn_below z8 (Nat.le_refl _))
                replace hle := on hle z8
                replace c3 := (z8.cell (p := ⟨b3, o3 + i, none⟩) (by simp only []; omega)).trans c3
                have HIY : Hid (Ints w8 ab nb (sel x cols)) := Lib.hid (rI_ints (oy.rd reads_I))
                clear oy
                rcases hrng with rfl | rfl | rfl
                · go_wp2_with fail
                  refine (HCMP.out _ _ _ _ HIY.out hle).mono ?_
                  rintro e w10 ⟨rfl, z10⟩
                  replace z10 : Below w8.heap.size w8 w10 := z10.below _
                  have s11 := z10.size
                  have hb11 := on hb9 z10
                  replace t_0 := (z10.cell (p := ⟨w.heap.size, 0, none⟩) (by simp only []; omega)).trans t_0
                  replace t_1 := (z10.cell (p := ⟨w.heap.size, 1, none⟩) (by simp only []; omega)).trans t_1
                  replace t_2 := (z10.cell (p := ⟨w.heap.size, 2, none⟩) (by simp only []; omega)).trans t_2
                  replace hacc := hacc.below z10 (by omega)
                  replace c0 := (z10.cell (p := ⟨b0, o0 + j, none⟩) (by simp only []; omega)).trans c0
                  replace hcc := hcc.below z10 (by omega)
                  replace hld := hld.trans (turn_below z10 (Nat.le_refl _))
                  replace hle := on hle z10
                  replace c3 := (z10.cell (p := ⟨b3, o3 + i, none⟩) (by simp only []; omega)).trans c3
                  have HE : Hid (cntRow g all = c + cntRow g (all.drop (i + 1))) := Lib.hid (by rw [HC.out]; simp)
                  go_wp2_with fail
                  go_roundw
                  case rel => exact ⟨i + 1, c, by omega, by go_num, rfl, by omega, HE.out, hle⟩
                  case measure => simp [intOf]; omega
                · go_wp2_with fail
                  refine (HCMP.out _ _ _ _ HIY.out hle).mono ?_
                  rintro e w12 ⟨rfl, z12⟩
                  replace z12 : Below w8.heap.size w8 w12 := z12.below _
                  have s13 := z12.size
                  have hb13 := on hb9 z12
                  replace t_0 := (z12.cell (p := ⟨w.heap.size, 0, none⟩) (by simp only []; omega)).trans t_0
                  replace t_1 := (z12.cell (p := ⟨w.heap.size, 1, none⟩) (by simp only []; omega)).trans t_1
                  replace t_2 := (z12.cell (p := ⟨w.heap.size, 2, none⟩) (by simp only []; omega)).trans t_2
                  replace hacc := hacc.below z12 (by omega)
                  replace c0 := (z12.cell (p := ⟨b0, o0 + j, none⟩) (by simp only []; omega)).trans c0
                  replace hcc := hcc.below z12 (by omega)
                  replace hld := hld.trans (turn_below z12 (Nat.le_refl _))
                  replace hle := on hle z12
                  replace c3 := (z12.cell (p := ⟨b3, o3 + i, none⟩) (by simp only []; omega)).trans c3
                  have HE : Hid (cntRow g all = (c + 1) + cntRow g (all.drop (i + 1))) := Lib.hid (by rw [HC.out]; simp; omega)
                  go_wp2_with fail
                  go_roundw
                  case rel => exact ⟨i + 1, c + 1, by omega, by go_num, by go_num, by omega, HE.out, hle⟩
                  case measure => simp [intOf]; omega
                · go_wp2_with fail
                  refine (HCMP.out _ _ _ _ HIY.out hle).mono ?_
                  rintro e w14 ⟨rfl, z14⟩
                  replace z14 : Below w8.heap.size w8 w14 := z14.below _
                  have s15 := z14.size
                  have hb15 := on hb9 z14
                  replace t_0 := (z14.cell (p := ⟨w.heap.size, 0, none⟩) (by simp only []; omega)).trans t_0
                  replace t_1 := (z14.cell (p := ⟨w.heap.size, 1, none⟩) (by simp only []; omega)).trans t_1
                  replace t_2 := (z14.cell (p := ⟨w.heap.size, 2, none⟩) (by simp only []; omega)).trans t_2
                  replace hacc := hacc.below z14 (by omega)
                  replace c0 := (z14.cell (p := ⟨b0, o0 + j, none⟩) (by simp only []; omega)).trans c0
                  replace hcc := hcc.below z14 (by omega)
                  replace hld := hld.trans (turn_below z14 (Nat.le_refl _))
                  replace hle := on hle z14
                  replace c3 := (z14.cell (p := ⟨b3, o3 + i, none⟩) (by simp only []; omega)).trans c3
                  have HE : Hid (cntRow g all = c + cntRow g (all.drop (i + 1))) := Lib.hid (by rw [HC.out]; simp)
                  go_wp2_with fail
                  go_roundw
                  case rel => exact ⟨i + 1, c, by omega, by go_num, rfl, by omega, HE.out, hle⟩
                  case measure => simp [intOf]; omega
              · have hR : cntRow g all = c := by rw [hC.out, cntRow_end (by have := HAL.out; omega)]; rfl
                have HS2 : Hid (countsOf (gs.take (j + 1)) all = countsOf (gs.take j) all ++ [(c : Int)]) := Lib.hid (by rw [HS.out, hR])
                clear hR hC
                go_wp2_with ((at_builtin; refine wpList_accI _ _ _ _ _ hcc hld rfl (by omega) (by omega) ⟨by omega, by omega⟩ (by omega) rfl rfl rfl rfl rfl ?_; intro v' w1 hacc' ht' hsz'))
                rw [← HS2.out] at hacc'
                go_roundw
                case rel => exact ⟨j + 1, by omega, by go_num, hacc', ht'⟩
                case measure => simp [intOf]; omega
          · rw [List.take_of_length_le (by have := HGL.out; omega)] at hcc
            obtain ⟨ca, cn, cd, rfl⟩ := hcc.form3
            have HO1 := Lib.hid (hacc.own (B := w.heap.size) (hi' := wo.heap.size) (by omega) (by omega) (by omega))
            have HO2 := Lib.hid (hcc.own (B := w.heap.size) (hi' := wo.heap.size) (by omega) (by omega) (by omega))
            clear hacc hcc t0
            go_wp2_with fail
            refine bodyPost_ret (v := .tuple #[.slice va vn vc, .slice ca cn cd]) (by simp [results, Try.results61, go_sem]) rfl ⟨_, _, _, _, _, _, rfl, by rw [H1.out]; exact HO1.out, by rw [H2.out]; exact HO2.out, hb7⟩

end Go.Proofs.Ytbkoddikfpkocaa
