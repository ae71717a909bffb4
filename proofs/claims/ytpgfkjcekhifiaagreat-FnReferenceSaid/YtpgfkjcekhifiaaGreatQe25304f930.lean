/- Texts joined for one claim: ValidDb. -/
import Derived.Test.YtpgfkjcekhifiaaGreatQ94813783a4
import Derived.Test.YtpgfkjcekhifiaaGreatQ2023b2b8fc
import Derived.Test.YtpgfkjcekhifiaaGreatQ52736f1836

namespace Go.Proofs.YtpgfkjcekhifiaaGreat

open Go.RowKit Go.Sort

set_option linter.unusedVariables false

set_option linter.unusedSimpArgs false

set_option synthInstance.maxSize 2000

set_option synthInstance.maxHeartbeats 400000

def ltB (s t : ByteArray) : Bool := Op.bytesLess s.toList t.toList

def dbFrom (p : Option ByteArray) : List DT → Bool
  | [] => true
  | t :: r => validT t && ((match p with | none => true | some q => ltB q t.1) && dbFrom (some t.1) r)

def validDb (db : DDb) : Bool := dbFrom none db && decide (db.length ≤ 6)

def prevN (db : List DT) : Nat → Option ByteArray
  | 0 => none
  | j + 1 => (db[j]?).map (fun t => t.1)

theorem dbFrom_at {p : Option ByteArray} {db : List DT} {j : Nat} {t : DT} (h : db[j]? = some t) : dbFrom p (db.drop j) = (validT t && ((match p with | none => true | some q => ltB q t.1) && dbFrom (some t.1) (db.drop (j + 1)))) := by
  rw [drop_at h]; rfl

theorem dbFrom_end {p : Option ByteArray} {db : List DT} {j : Nat} (h : db.length ≤ j) : dbFrom p (db.drop j) = true := by
  rw [List.drop_eq_nil_of_le h]; rfl

theorem prevN_at {db : List DT} {j : Nat} {t : DT} (h : db[j]? = some t) : prevN db (j + 1) = some t.1 := by simp [prevN, h]

theorem validDb_no {db : DDb} (h : dbFrom none db = false) : validDb db = false := by simp [validDb, h]

theorem validDb_len {db : DDb} {n : Nat} (hl : db.length = n) (h : dbFrom none db = true) : validDb db = decide ((n : Int) ≤ 6) := by
  rw [validDb, h, hl, Bool.eq_iff_iff]; simp only [Bool.true_and, decide_eq_true_eq]; omega

set_option maxHeartbeats 4000000 in
theorem validDb_impl (cs : List Value) (x : DDb) (w : World) (h : rDb.rep w cs x) :
    Calls Tryz.prog 90 #[.agg cs.toArray] w fun e w' => e = .returned (.bool (validDb x)) ∧ Below w.heap.size w w' := by
  obtain ⟨ub, un, uc, rfl, g1⟩ := rDb_open h
  clear h
  have t1 := rS_sl g1
  have hl := t1.len
  have hn := t1.small
  have HV : Hid (dbFrom none x = dbFrom (prevN x 0) (x.drop 0)) := rfl
  have HL := Lib.hid hl
  have hb0 : Below w.heap.size w w := Below.refl _ _
  go_enter Tryz.func90, Tryz.ntmps90
  obtain ⟨w1, hw1⟩ : ∃ W, W = w.alloc (.cells #[.slice ub un uc] 26) := ⟨_, rfl⟩
  have z1 : Below w.heap.size w w1 := by rw [hw1]; exact (Below.refl _ _).alloc (Nat.le_refl _) _
  have s1 : w1.heap.size = w.heap.size + 1 := by rw [hw1]; simp
  have hb1 := on hb0 z1
  have b_0 : w1.cell? ⟨w.heap.size, 0, none⟩ = some (.slice ub un uc) := by rw [hw1]; exact box_cell (Below.refl _ _) rfl
  have raw1_b_0 := b_0
  rw [hw1] at raw1_b_0
  go_wp2_with fail
  rw [← hw1]
  clear hw1
  clear raw1_b_0
  go_loopw [8] (fun k wr => ∃ j : Nat, j ≤ un ∧ k = .int .i64 j ∧ Hid (dbFrom none x = dbFrom (prevN x j) (x.drop j)) ∧ Below w1.heap.size w1 wr) (fun k _ => un - (intOf k).toNat)
  case atStart => exact ⟨0, Nat.zero_le _, rfl, HV.out, Below.refl _ _⟩
  case round =>
    obtain ⟨j, hj, rfl, hE, hdr⟩ := hrel
    obtain ⟨wo, rfl⟩ : ∃ W, W = wr := ⟨_, rfl⟩
    have hlc := hdr
    have s2 := hdr.size
    have hb2 := on hb1 hdr
    replace b_0 := bxc hdr b_0
    by_cases hlt : j < un
    · obtain ⟨b1, o1, cs, t, rfl, hx, hr, hc⟩ := t1.at hlt
      have HA := Lib.hid (hE.out.trans (dbFrom_at hx.out))
      have HP := Lib.hid (prevN_at hx.out)
      obtain ⟨s, i, rows⟩ := t
      obtain ⟨tb, tn, tc, rfl, hs, hi, g2⟩ := rT_open hr
      simp only at hs hi g2 HA HP
      have e_lt : b1 < w.heap.size := cell_lt (hc 0 _ rfl)
      have e_0 : wo.cell? ⟨b1, o1 + j * 3, none⟩ = some (.string s) := (hb2.cell (p := ⟨b1, o1 + j * 3, none⟩) e_lt).trans (by have h9 := hc 0 _ rfl; rw [← Nat.add_assoc] at h9; exact h9)
      have e_1 : wo.cell? ⟨b1, o1 + j * 3 + 1, none⟩ = some (.int .i64 i) := (hb2.cell (p := ⟨b1, o1 + j * 3 + 1, none⟩) e_lt).trans (by have h9 := hc 1 _ rfl; rw [← Nat.add_assoc] at h9; exact h9)
      have e_2 : wo.cell? ⟨b1, o1 + j * 3 + 2, none⟩ = some (.slice tb tn tc) := (hb2.cell (p := ⟨b1, o1 + j * 3 + 2, none⟩) e_lt).trans (by have h9 := hc 2 _ rfl; rw [← Nat.add_assoc] at h9; exact h9)
      have hcall := fun W (hW : Below w.heap.size w W) => validT_impl [.string s, .int .i64 i, .slice tb tn tc] (s, i, rows) W (rT.mono hr hW)
      obtain ⟨v, hv⟩ : ∃ v, v = validT (s, i, rows) := ⟨_, rfl⟩
      rw [← hv] at hcall HA
      have HC := Lib.hid hcall
      clear hcall hv hE HV hc hr g2 hl
      by_cases hj0 : j = 0
      · subst hj0
        have z_0 : wo.cell? ⟨b1, o1, none⟩ = some (.string s) := by have h9 := e_0; rw [Nat.zero_mul, Nat.add_zero] at h9; exact h9
        have z_1 : wo.cell? ⟨b1, o1 + 1, none⟩ = some (.int .i64 i) := by have h9 := e_1; rw [Nat.zero_mul, Nat.add_zero] at h9; exact h9
        have z_2 : wo.cell? ⟨b1, o1 + 2, none⟩ = some (.slice tb tn tc) := by have h9 := e_2; rw [Nat.zero_mul, Nat.add_zero] at h9; exact h9
        clear e_0 e_1 e_2
        have HA1 : Hid (dbFrom none x = (v && dbFrom (prevN x (0 + 1)) (x.drop (0 + 1)))) := Lib.hid (by rw [HA.out, HP.out]; simp [prevN])
        clear hx HA HP t1
        cases v with
        | true =>
          have HE : Hid (dbFrom none x = dbFrom (prevN x (0 + 1)) (x.drop (0 + 1))) := Lib.hid (by rw [HA1.out]; rfl)
          obtain ⟨w3, hw3⟩ : ∃ W, W = wo.alloc (.cells #[.string s, .int .i64 i, .slice tb tn tc] 44) := ⟨_, rfl⟩
          have z3 : Below wo.heap.size wo w3 := by rw [hw3]; exact (Below.refl _ _).alloc (Nat.le_refl _) _
          have s3 : w3.heap.size = wo.heap.size + 1 := by rw [hw3]; simp
          have hb3 := on hb2 z3
          have old3_b_0 := b_0
          have old3_z_0 := z_0
          have old3_z_1 := z_1
          have old3_z_2 := z_2
          replace b_0 := bxc z3 b_0
          replace hlc := on hlc z3
          replace z_0 := bxc z3 z_0
          replace z_1 := bxc z3 z_1
          replace z_2 := bxc z3 z_2
          have p_0 : w3.cell? ⟨wo.heap.size, 0, none⟩ = some (.string s) := by rw [hw3]; exact box_cell (Below.refl _ _) rfl
          have p_1 : w3.cell? ⟨wo.heap.size, 1, none⟩ = some (.int .i64 i) := by rw [hw3]; exact box_cell (Below.refl _ _) rfl
          have p_2 : w3.cell? ⟨wo.heap.size, 2, none⟩ = some (.slice tb tn tc) := by rw [hw3]; exact box_cell (Below.refl _ _) rfl
          have raw3_b_0 := b_0
          have raw3_z_0 := z_0
          have raw3_z_1 := z_1
          have raw3_z_2 := z_2
          have raw3_p_0 := p_0
          have raw3_p_1 := p_1
          have raw3_p_2 := p_2
          rw [hw3] at raw3_b_0 raw3_z_0 raw3_z_1 raw3_z_2 raw3_p_0 raw3_p_1 raw3_p_2
          go_wp2_with fail
          rw [← hw3]
          clear hw3
          clear old3_b_0 old3_z_0 old3_z_1 old3_z_2 raw3_b_0 raw3_z_0 raw3_z_1 raw3_z_2 raw3_p_0 raw3_p_1 raw3_p_2
          have rg_b_0 := cell_regrown b_0
          have rg_z_0 := cell_regrown z_0
          have rg_z_1 := cell_regrown z_1
          have rg_z_2 := cell_regrown z_2
          have rg_p_0 := cell_regrown p_0
          have rg_p_1 := cell_regrown p_1
          have rg_p_2 := cell_regrown p_2
          refine wp_region_quiet_below (by kernel_rfl) (by kernel_rfl) ?_
          repeat (go_big_quiet_step ((first | (go_at_call 108; exact Calls.regrown_of (HC.out _ (on hb3 (below_regrown _ _ _)))))))
          refine wpQuiet_nil ?_
          intro w4 hw4
          have z4 : Below w3.heap.size w3 w4 := by obtain ⟨p9, e9⟩ := hw4; rw [e9]; exact below_regrown _ _ _
          clear hw4 rg_b_0 rg_z_0 rg_z_1 rg_z_2 rg_p_0 rg_p_1 rg_p_2
          have s5 := z4.size
          have hb5 := on hb3 z4
          replace b_0 := bxc z4 b_0
          replace hlc := on hlc z4
          replace z_0 := bxc z4 z_0
          replace z_1 := bxc z4 z_1
          replace z_2 := bxc z4 z_2
          replace p_0 := bxc z4 p_0
          replace p_1 := bxc z4 p_1
          replace p_2 := bxc z4 p_2
          go_wp2_with fail
          go_roundw
          case rel => exact ⟨1, by omega, rfl, HE.out, hlc⟩
          case measure => simp [intOf]; omega
        | false =>
          have HE := Lib.hid (validDb_no (db := x) (by rw [HA1.out]; rfl))
          obtain ⟨w6, hw6⟩ : ∃ W, W = wo.alloc (.cells #[.string s, .int .i64 i, .slice tb tn tc] 44) := ⟨_, rfl⟩
          have z6 : Below wo.heap.size wo w6 := by rw [hw6]; exact (Below.refl _ _).alloc (Nat.le_refl _) _
          have s6 : w6.heap.size = wo.heap.size + 1 := by rw [hw6]; simp
          have hb6 := on hb2 z6
          have old6_b_0 := b_0
          have old6_z_0 := z_0
          have old6_z_1 := z_1
          have old6_z_2 := z_2
          replace b_0 := bxc z6 b_0
          replace hlc := on hlc z6
          replace z_0 := bxc z6 z_0
          replace z_1 := bxc z6 z_1
          replace z_2 := bxc z6 z_2
          have p_0 : w6.cell? ⟨wo.heap.size, 0, none⟩ = some (.string s) := by rw [hw6]; exact box_cell (Below.refl _ _) rfl
          have p_1 : w6.cell? ⟨wo.heap.size, 1, none⟩ = some (.int .i64 i) := by rw [hw6]; exact box_cell (Below.refl _ _) rfl
          have p_2 : w6.cell? ⟨wo.heap.size, 2, none⟩ = some (.slice tb tn tc) := by rw [hw6]; exact box_cell (Below.refl _ _) rfl
          have raw6_b_0 := b_0
          have raw6_z_0 := z_0
          have raw6_z_1 := z_1
          have raw6_z_2 := z_2
          have raw6_p_0 := p_0
          have raw6_p_1 := p_1
          have raw6_p_2 := p_2
          rw [hw6] at raw6_b_0 raw6_z_0 raw6_z_1 raw6_z_2 raw6_p_0 raw6_p_1 raw6_p_2
          go_wp2_with fail
          rw [← hw6]
          clear hw6
          clear old6_b_0 old6_z_0 old6_z_1 old6_z_2 raw6_b_0 raw6_z_0 raw6_z_1 raw6_z_2 raw6_p_0 raw6_p_1 raw6_p_2
          have rg_b_0 := cell_regrown b_0
          have rg_z_0 := cell_regrown z_0
          have rg_z_1 := cell_regrown z_1
          have rg_z_2 := cell_regrown z_2
          have rg_p_0 := cell_regrown p_0
          have rg_p_1 := cell_regrown p_1
          have rg_p_2 := cell_regrown p_2
          refine wp_region_quiet_below (by kernel_rfl) (by kernel_rfl) ?_
          repeat (go_big_quiet_step ((first | (go_at_call 108; exact Calls.regrown_of (HC.out _ (on hb6 (below_regrown _ _ _)))))))
          refine wpQuiet_nil ?_
          intro w7 hw7
          have z7 : Below w6.heap.size w6 w7 := by obtain ⟨p9, e9⟩ := hw7; rw [e9]; exact below_regrown _ _ _
          clear hw7 rg_b_0 rg_z_0 rg_z_1 rg_z_2 rg_p_0 rg_p_1 rg_p_2
          have s8 := z7.size
          have hb8 := on hb6 z7
          replace b_0 := bxc z7 b_0
          replace hlc := on hlc z7
          replace z_0 := bxc z7 z_0
          replace z_1 := bxc z7 z_1
          replace z_2 := bxc z7 z_2
          replace p_0 := bxc z7 p_0
          replace p_1 := bxc z7 p_1
          replace p_2 := bxc z7 p_2
          go_wp2_with fail
          go_ret
          exact ⟨ret_bool HE.out.symm, hb8⟩
      obtain ⟨l, rfl⟩ : ∃ l, j = l + 1 := ⟨j - 1, by omega⟩
      obtain ⟨b9, o9, cs, t, hb9, hy, hr, hc⟩ := t1.at (show l < un by omega)
      simp at hb9
      obtain ⟨rfl, rfl⟩ := hb9
      have HP2 := Lib.hid (prevN_at hy.out)
      obtain ⟨s2, i2, rows2⟩ := t
      obtain ⟨tb2, tn2, tc2, rfl, hs2, hi2, g2⟩ := rT_open hr
      simp only at HP2
      have f_lt : b1 < w.heap.size := cell_lt (hc 0 _ rfl)
      have f_0 : wo.cell? ⟨b1, o1 + l * 3, none⟩ = some (.string s2) := (hb2.cell (p := ⟨b1, o1 + l * 3, none⟩) f_lt).trans (by have h9 := hc 0 _ rfl; rw [← Nat.add_assoc] at h9; exact h9)
      have f_1 : wo.cell? ⟨b1, o1 + l * 3 + 1, none⟩ = some (.int .i64 i2) := (hb2.cell (p := ⟨b1, o1 + l * 3 + 1, none⟩) f_lt).trans (by have h9 := hc 1 _ rfl; rw [← Nat.add_assoc] at h9; exact h9)
      have f_2 : wo.cell? ⟨b1, o1 + l * 3 + 2, none⟩ = some (.slice tb2 tn2 tc2) := (hb2.cell (p := ⟨b1, o1 + l * 3 + 2, none⟩) f_lt).trans (by have h9 := hc 2 _ rfl; rw [← Nat.add_assoc] at h9; exact h9)
      have HA1 : Hid (dbFrom none x = (v && (ltB s2 s && dbFrom (prevN x (l + 1 + 1)) (x.drop (l + 1 + 1))))) := Lib.hid (by rw [HA.out, HP.out, HP2.out])
      clear hx hy HA HP HP2 t1 hc hr g2 hj0
      obtain ⟨q, hq⟩ : ∃ q, q = ltB s2 s := ⟨_, rfl⟩
      rw [← hq] at HA1
      have hq2 : Op.bytesLess s2.toList s.toList = q := hq.symm
      clear hq
      have hi63 : IntKind.i64.wrap (l : Int) = (l : Int) := IntWalk.i64_in _ (by omega)
      cases v with
      | false =>
        have HE := Lib.hid (validDb_no (db := x) (by rw [HA1.out]; rfl))
        obtain ⟨w9, hw9⟩ : ∃ W, W = wo.alloc (.cells #[.string s, .int .i64 i, .slice tb tn tc] 44) := ⟨_, rfl⟩
        have z9 : Below wo.heap.size wo w9 := by rw [hw9]; exact (Below.refl _ _).alloc (Nat.le_refl _) _
        have s9 : w9.heap.size = wo.heap.size + 1 := by rw [hw9]; simp
        have hb9 := on hb2 z9
        have old9_b_0 := b_0
        have old9_e_0 := e_0
        have old9_e_1 := e_1
        have old9_e_2 := e_2
        have old9_f_0 := f_0
        have old9_f_1 := f_1
        have old9_f_2 := f_2
        replace b_0 := bxc z9 b_0
        replace hlc := on hlc z9
        replace e_0 := bxc z9 e_0
        replace e_1 := bxc z9 e_1
        replace e_2 := bxc z9 e_2
        replace f_0 := bxc z9 f_0
        replace f_1 := bxc z9 f_1
        replace f_2 := bxc z9 f_2
        have p_0 : w9.cell? ⟨wo.heap.size, 0, none⟩ = some (.string s) := by rw [hw9]; exact box_cell (Below.refl _ _) rfl
        have p_1 : w9.cell? ⟨wo.heap.size, 1, none⟩ = some (.int .i64 i) := by rw [hw9]; exact box_cell (Below.refl _ _) rfl
        have p_2 : w9.cell? ⟨wo.heap.size, 2, none⟩ = some (.slice tb tn tc) := by rw [hw9]; exact box_cell (Below.refl _ _) rfl
        have raw9_b_0 := b_0
        have raw9_e_0 := e_0
        have raw9_e_1 := e_1
        have raw9_e_2 := e_2
        have raw9_f_0 := f_0
        have raw9_f_1 := f_1
        have raw9_f_2 := f_2
        have raw9_p_0 := p_0
        have raw9_p_1 := p_1
        have raw9_p_2 := p_2
        rw [hw9] at raw9_b_0 raw9_e_0 raw9_e_1 raw9_e_2 raw9_f_0 raw9_f_1 raw9_f_2 raw9_p_0 raw9_p_1 raw9_p_2
        go_wp2_with fail
        rw [← hw9]
        clear hw9
        clear old9_b_0 old9_e_0 old9_e_1 old9_e_2 old9_f_0 old9_f_1 old9_f_2 raw9_b_0 raw9_e_0 raw9_e_1 raw9_e_2 raw9_f_0 raw9_f_1 raw9_f_2 raw9_p_0 raw9_p_1 raw9_p_2
        have rg_b_0 := cell_regrown b_0
        have rg_e_0 := cell_regrown e_0
        have rg_e_1 := cell_regrown e_1
        have rg_e_2 := cell_regrown e_2
        have rg_f_0 := cell_regrown f_0
        have rg_f_1 := cell_regrown f_1
        have rg_f_2 := cell_regrown f_2
        have rg_p_0 := cell_regrown p_0
        have rg_p_1 := cell_regrown p_1
        have rg_p_2 := cell_regrown p_2
        refine wp_region_quiet_below (by kernel_rfl) (by kernel_rfl) ?_
        repeat (go_big_quiet_step ((first | (go_at_call 108; exact Calls.regrown_of (HC.out _ (on hb9 (below_regrown _ _ _)))))))
        refine wpQuiet_nil ?_
        intro w10 hw10
        have z10 : Below w9.heap.size w9 w10 := by obtain ⟨p9, e9⟩ := hw10; rw [e9]; exact below_regrown _ _ _
        clear hw10 rg_b_0 rg_e_0 rg_e_1 rg_e_2 rg_f_0 rg_f_1 rg_f_2 rg_p_0 rg_p_1 rg_p_2
        have s11 := z10.size
        have hb11 := on hb9 z10
        replace b_0 := bxc z10 b_0
        replace hlc := on hlc z10
        replace e_0 := bxc z10 e_0
        replace e_1 := bxc z10 e_1
        replace e_2 := bxc z10 e_2
        replace f_0 := bxc z10 f_0
        replace f_1 := bxc z10 f_1
        replace f_2 := bxc z10 f_2
        replace p_0 := bxc z10 p_0
        replace p_1 := bxc z10 p_1
        replace p_2 := bxc z10 p_2
        clear hi63
        go_wp2_with fail
        go_ret
        exact ⟨ret_bool HE.out.symm, hb11⟩
      | true =>
        cases q with
        | false =>
          have HE := Lib.hid (validDb_no (db := x) (by rw [HA1.out]; rfl))
          obtain ⟨w12, hw12⟩ : ∃ W, W = wo.alloc (.cells #[.string s, .int .i64 i, .slice tb tn tc] 44) := ⟨_, rfl⟩
          have z12 : Below wo.heap.size wo w12 := by rw [hw12]; exact (Below.refl _ _).alloc (Nat.le_refl _) _
          have s12 : w12.heap.size = wo.heap.size + 1 := by rw [hw12]; simp
          have hb12 := on hb2 z12
          have old12_b_0 := b_0
          have old12_e_0 := e_0
          have old12_e_1 := e_1
          have old12_e_2 := e_2
          have old12_f_0 := f_0
          have old12_f_1 := f_1
          have old12_f_2 := f_2
          replace b_0 := bxc z12 b_0
          replace hlc := on hlc z12
          replace e_0 := bxc z12 e_0
          replace e_1 := bxc z12 e_1
          replace e_2 := bxc z12 e_2
          replace f_0 := bxc z12 f_0
          replace f_1 := bxc z12 f_1
          replace f_2 := bxc z12 f_2
          have p_0 : w12.cell? ⟨wo.heap.size, 0, none⟩ = some (.string s) := by rw [hw12]; exact box_cell (Below.refl _ _) rfl
          have p_1 : w12.cell? ⟨wo.heap.size, 1, none⟩ = some (.int .i64 i) := by rw [hw12]; exact box_cell (Below.refl _ _) rfl
          have p_2 : w12.cell? ⟨wo.heap.size, 2, none⟩ = some (.slice tb tn tc) := by rw [hw12]; exact box_cell (Below.refl _ _) rfl
          have raw12_b_0 := b_0
          have raw12_e_0 := e_0
          have raw12_e_1 := e_1
          have raw12_e_2 := e_2
          have raw12_f_0 := f_0
          have raw12_f_1 := f_1
          have raw12_f_2 := f_2
          have raw12_p_0 := p_0
          have raw12_p_1 := p_1
          have raw12_p_2 := p_2
          rw [hw12] at raw12_b_0 raw12_e_0 raw12_e_1 raw12_e_2 raw12_f_0 raw12_f_1 raw12_f_2 raw12_p_0 raw12_p_1 raw12_p_2
          go_wp2_with fail
          rw [← hw12]
          clear hw12
          clear old12_b_0 old12_e_0 old12_e_1 old12_e_2 old12_f_0 old12_f_1 old12_f_2 raw12_b_0 raw12_e_0 raw12_e_1 raw12_e_2 raw12_f_0 raw12_f_1 raw12_f_2 raw12_p_0 raw12_p_1 raw12_p_2
          have rg_b_0 := cell_regrown b_0
          have rg_e_0 := cell_regrown e_0
          have rg_e_1 := cell_regrown e_1
          have rg_e_2 := cell_regrown e_2
          have rg_f_0 := cell_regrown f_0
          have rg_f_1 := cell_regrown f_1
          have rg_f_2 := cell_regrown f_2
          have rg_p_0 := cell_regrown p_0
          have rg_p_1 := cell_regrown p_1
          have rg_p_2 := cell_regrown p_2
          refine wp_region_quiet_below (by kernel_rfl) (by kernel_rfl) ?_
          repeat (go_big_quiet_step ((first | (go_at_call 108; exact Calls.regrown_of (HC.out _ (on hb12 (below_regrown _ _ _)))))))
          refine wpQuiet_nil ?_
          intro w13 hw13
          have z13 : Below w12.heap.size w12 w13 := by obtain ⟨p9, e9⟩ := hw13; rw [e9]; exact below_regrown _ _ _
          clear hw13 rg_b_0 rg_e_0 rg_e_1 rg_e_2 rg_f_0 rg_f_1 rg_f_2 rg_p_0 rg_p_1 rg_p_2
          have s14 := z13.size
          have hb14 := on hb12 z13
          replace b_0 := bxc z13 b_0
          replace hlc := on hlc z13
          replace e_0 := bxc z13 e_0
          replace e_1 := bxc z13 e_1
          replace e_2 := bxc z13 e_2
          replace f_0 := bxc z13 f_0
          replace f_1 := bxc z13 f_1
          replace f_2 := bxc z13 f_2
          replace p_0 := bxc z13 p_0
          replace p_1 := bxc z13 p_1
          replace p_2 := bxc z13 p_2
          clear hi63
          go_wp2_with fail
          go_ret
          exact ⟨ret_bool HE.out.symm, hb14⟩
        | true =>
          have HE : Hid (dbFrom none x = dbFrom (prevN x (l + 1 + 1)) (x.drop (l + 1 + 1))) := Lib.hid (by rw [HA1.out]; rfl)
          obtain ⟨w15, hw15⟩ : ∃ W, W = wo.alloc (.cells #[.string s, .int .i64 i, .slice tb tn tc] 44) := ⟨_, rfl⟩
          have z15 : Below wo.heap.size wo w15 := by rw [hw15]; exact (Below.refl _ _).alloc (Nat.le_refl _) _
          have s15 : w15.heap.size = wo.heap.size + 1 := by rw [hw15]; simp
          have hb15 := on hb2 z15
          have old15_b_0 := b_0
          have old15_e_0 := e_0
          have old15_e_1 := e_1
          have old15_e_2 := e_2
          have old15_f_0 := f_0
          have old15_f_1 := f_1
          have old15_f_2 := f_2
          replace b_0 := bxc z15 b_0
          replace hlc := on hlc z15
          replace e_0 := bxc z15 e_0
          replace e_1 := bxc z15 e_1
          replace e_2 := bxc z15 e_2
          replace f_0 := bxc z15 f_0
          replace f_1 := bxc z15 f_1
          replace f_2 := bxc z15 f_2
          have p_0 : w15.cell? ⟨wo.heap.size, 0, none⟩ = some (.string s) := by rw [hw15]; exact box_cell (Below.refl _ _) rfl
          have p_1 : w15.cell? ⟨wo.heap.size, 1, none⟩ = some (.int .i64 i) := by rw [hw15]; exact box_cell (Below.refl _ _) rfl
          have p_2 : w15.cell? ⟨wo.heap.size, 2, none⟩ = some (.slice tb tn tc) := by rw [hw15]; exact box_cell (Below.refl _ _) rfl
          have raw15_b_0 := b_0
          have raw15_e_0 := e_0
          have raw15_e_1 := e_1
          have raw15_e_2 := e_2
          have raw15_f_0 := f_0
          have raw15_f_1 := f_1
          have raw15_f_2 := f_2
          have raw15_p_0 := p_0
          have raw15_p_1 := p_1
          have raw15_p_2 := p_2
          rw [hw15] at raw15_b_0 raw15_e_0 raw15_e_1 raw15_e_2 raw15_f_0 raw15_f_1 raw15_f_2 raw15_p_0 raw15_p_1 raw15_p_2
          go_wp2_with fail
          rw [← hw15]
          clear hw15
          clear old15_b_0 old15_e_0 old15_e_1 old15_e_2 old15_f_0 old15_f_1 old15_f_2 raw15_b_0 raw15_e_0 raw15_e_1 raw15_e_2 raw15_f_0 raw15_f_1 raw15_f_2 raw15_p_0 raw15_p_1 raw15_p_2
          have rg_b_0 := cell_regrown b_0
          have rg_e_0 := cell_regrown e_0
          have rg_e_1 := cell_regrown e_1
          have rg_e_2 := cell_regrown e_2
          have rg_f_0 := cell_regrown f_0
          have rg_f_1 := cell_regrown f_1
          have rg_f_2 := cell_regrown f_2
          have rg_p_0 := cell_regrown p_0
          have rg_p_1 := cell_regrown p_1
          have rg_p_2 := cell_regrown p_2
          refine wp_region_quiet_below (by kernel_rfl) (by kernel_rfl) ?_
          repeat (go_big_quiet_step ((first | (go_at_call 108; exact Calls.regrown_of (HC.out _ (on hb15 (below_regrown _ _ _)))))))
          refine wpQuiet_nil ?_
          intro w16 hw16
          have z16 : Below w15.heap.size w15 w16 := by obtain ⟨p9, e9⟩ := hw16; rw [e9]; exact below_regrown _ _ _
          clear hw16 rg_b_0 rg_e_0 rg_e_1 rg_e_2 rg_f_0 rg_f_1 rg_f_2 rg_p_0 rg_p_1 rg_p_2
          have s17 := z16.size
          have hb17 := on hb15 z16
          replace b_0 := bxc z16 b_0
          replace hlc := on hlc z16
          replace e_0 := bxc z16 e_0
          replace e_1 := bxc z16 e_1
          replace e_2 := bxc z16 e_2
          replace f_0 := bxc z16 f_0
          replace f_1 := bxc z16 f_1
          replace f_2 := bxc z16 f_2
          replace p_0 := bxc z16 p_0
          replace p_1 := bxc z16 p_1
          replace p_2 := bxc z16 p_2
          clear hi63
          go_wp2_with fail
          go_roundw
          case rel => exact ⟨l + 1 + 1, by omega, by go_num, HE.out, hlc⟩
          case measure => simp [intOf]; omega
    · have HE := Lib.hid (validDb_len HL.out (hE.out.trans (dbFrom_end (by have := HL.out; omega))))
      clear t1 hl hE HV
      go_wp2_with fail
      go_ret
      exact ⟨ret_bool (by rw [HE.out]), hb2⟩

set_option maxHeartbeats 4000000 in
theorem validDb_spec (cs : List Value) (x : DDb) (w : World) (h : rDb.rep w cs x) :
    Calls Tryz.prog 42 #[.agg cs.toArray] w fun e w' => e = .returned (.bool (validDb x)) ∧ Below w.heap.size w w' := by
  obtain ⟨ub, un, uc, rfl, g1⟩ := rDb_open h
  clear h
  have t1 := rS_sl g1
  have hl := t1.len
  have hn := t1.small
  have HV : Hid (dbFrom none x = dbFrom (prevN x 0) (x.drop 0)) := rfl
  have HL := Lib.hid hl
  have hb0 : Below w.heap.size w w := Below.refl _ _
  go_enter Tryz.func42, Tryz.ntmps42
  obtain ⟨w1, hw1⟩ : ∃ W, W = w.alloc (.cells #[.slice ub un uc] 26) := ⟨_, rfl⟩
  have z1 : Below w.heap.size w w1 := by rw [hw1]; exact (Below.refl _ _).alloc (Nat.le_refl _) _
  have s1 : w1.heap.size = w.heap.size + 1 := by rw [hw1]; simp
  have hb1 := on hb0 z1
  have b_0 : w1.cell? ⟨w.heap.size, 0, none⟩ = some (.slice ub un uc) := by rw [hw1]; exact box_cell (Below.refl _ _) rfl
  have raw1_b_0 := b_0
  rw [hw1] at raw1_b_0
  go_wp2_with fail
  rw [← hw1]
  clear hw1
  clear raw1_b_0
  go_loopw [3] (fun k wr => ∃ j : Nat, j ≤ un ∧ k = .int .i64 j ∧ Hid (dbFrom none x = dbFrom (prevN x j) (x.drop j)) ∧ Below w1.heap.size w1 wr) (fun k _ => un - (intOf k).toNat)
  case atStart => exact ⟨0, Nat.zero_le _, rfl, HV.out, Below.refl _ _⟩
  case round =>
    obtain ⟨j, hj, rfl, hE, hdr⟩ := hrel
    obtain ⟨wo, rfl⟩ : ∃ W, W = wr := ⟨_, rfl⟩
    have hlc := hdr
    have s2 := hdr.size
    have hb2 := on hb1 hdr
    replace b_0 := bxc hdr b_0
    by_cases hlt : j < un
    · obtain ⟨b1, o1, cs, t, rfl, hx, hr, hc⟩ := t1.at hlt
      have HA := Lib.hid (hE.out.trans (dbFrom_at hx.out))
      have HP := Lib.hid (prevN_at hx.out)
      obtain ⟨s, i, rows⟩ := t
      obtain ⟨tb, tn, tc, rfl, hs, hi, g2⟩ := rT_open hr
      simp only at hs hi g2 HA HP
      have e_lt : b1 < w.heap.size := cell_lt (hc 0 _ rfl)
      have e_0 : wo.cell? ⟨b1, o1 + j * 3, none⟩ = some (.string s) := (hb2.cell (p := ⟨b1, o1 + j * 3, none⟩) e_lt).trans (by have h9 := hc 0 _ rfl; rw [← Nat.add_assoc] at h9; exact h9)
      have e_1 : wo.cell? ⟨b1, o1 + j * 3 + 1, none⟩ = some (.int .i64 i) := (hb2.cell (p := ⟨b1, o1 + j * 3 + 1, none⟩) e_lt).trans (by have h9 := hc 1 _ rfl; rw [← Nat.add_assoc] at h9; exact h9)
      have e_2 : wo.cell? ⟨b1, o1 + j * 3 + 2, none⟩ = some (.slice tb tn tc) := (hb2.cell (p := ⟨b1, o1 + j * 3 + 2, none⟩) e_lt).trans (by have h9 := hc 2 _ rfl; rw [← Nat.add_assoc] at h9; exact h9)
      have hcall := fun W (hW : Below w.heap.size w W) => validT_spec [.string s, .int .i64 i, .slice tb tn tc] (s, i, rows) W (rT.mono hr hW)
      obtain ⟨v, hv⟩ : ∃ v, v = validT (s, i, rows) := ⟨_, rfl⟩
      rw [← hv] at hcall HA
      have HC := Lib.hid hcall
      clear hcall hv hE HV hc hr g2 hl
      by_cases hj0 : j = 0
      · subst hj0
        have z_0 : wo.cell? ⟨b1, o1, none⟩ = some (.string s) := by have h9 := e_0; rw [Nat.zero_mul, Nat.add_zero] at h9; exact h9
        have z_1 : wo.cell? ⟨b1, o1 + 1, none⟩ = some (.int .i64 i) := by have h9 := e_1; rw [Nat.zero_mul, Nat.add_zero] at h9; exact h9
        have z_2 : wo.cell? ⟨b1, o1 + 2, none⟩ = some (.slice tb tn tc) := by have h9 := e_2; rw [Nat.zero_mul, Nat.add_zero] at h9; exact h9
        clear e_0 e_1 e_2
        have HA1 : Hid (dbFrom none x = (v && dbFrom (prevN x (0 + 1)) (x.drop (0 + 1)))) := Lib.hid (by rw [HA.out, HP.out]; simp [prevN])
        clear hx HA HP t1
        cases v with
        | true =>
          have HE : Hid (dbFrom none x = dbFrom (prevN x (0 + 1)) (x.drop (0 + 1))) := Lib.hid (by rw [HA1.out]; rfl)
          go_wp2_with fail
          have rg_b_0 := cell_regrown b_0
          have rg_z_0 := cell_regrown z_0
          have rg_z_1 := cell_regrown z_1
          have rg_z_2 := cell_regrown z_2
          refine wp_region_quiet_below (by kernel_rfl) (by kernel_rfl) ?_
          repeat (go_big_quiet_step ((first | (go_at_call 44; exact Calls.regrown_of (HC.out _ (on hb2 (below_regrown _ _ _)))))))
          refine wpQuiet_nil ?_
          intro w3 hw3
          have z3 : Below wo.heap.size wo w3 := by obtain ⟨p9, e9⟩ := hw3; rw [e9]; exact below_regrown _ _ _
          clear hw3 rg_b_0 rg_z_0 rg_z_1 rg_z_2
          have s4 := z3.size
          have hb4 := on hb2 z3
          replace b_0 := bxc z3 b_0
          replace hlc := on hlc z3
          replace z_0 := bxc z3 z_0
          replace z_1 := bxc z3 z_1
          replace z_2 := bxc z3 z_2
          go_wp2_with fail
          go_roundw
          case rel => exact ⟨1, by omega, rfl, HE.out, hlc⟩
          case measure => simp [intOf]; omega
        | false =>
          have HE := Lib.hid (validDb_no (db := x) (by rw [HA1.out]; rfl))
          go_wp2_with fail
          have rg_b_0 := cell_regrown b_0
          have rg_z_0 := cell_regrown z_0
          have rg_z_1 := cell_regrown z_1
          have rg_z_2 := cell_regrown z_2
          refine wp_region_quiet_below (by kernel_rfl) (by kernel_rfl) ?_
          repeat (go_big_quiet_step ((first | (go_at_call 44; exact Calls.regrown_of (HC.out _ (on hb2 (below_regrown _ _ _)))))))
          refine wpQuiet_nil ?_
          intro w5 hw5
          have z5 : Below wo.heap.size wo w5 := by obtain ⟨p9, e9⟩ := hw5; rw [e9]; exact below_regrown _ _ _
          clear hw5 rg_b_0 rg_z_0 rg_z_1 rg_z_2
          have s6 := z5.size
          have hb6 := on hb2 z5
          replace b_0 := bxc z5 b_0
          replace hlc := on hlc z5
          replace z_0 := bxc z5 z_0
          replace z_1 := bxc z5 z_1
          replace z_2 := bxc z5 z_2
          go_wp2_with fail
          go_ret
          exact ⟨ret_bool HE.out.symm, hb6⟩
      obtain ⟨l, rfl⟩ : ∃ l, j = l + 1 := ⟨j - 1, by omega⟩
      obtain ⟨b9, o9, cs, t, hb9, hy, hr, hc⟩ := t1.at (show l < un by omega)
      simp at hb9
      obtain ⟨rfl, rfl⟩ := hb9
      have HP2 := Lib.hid (prevN_at hy.out)
      obtain ⟨s2, i2, rows2⟩ := t
      obtain ⟨tb2, tn2, tc2, rfl, hs2, hi2, g2⟩ := rT_open hr
      simp only at HP2
      have f_lt : b1 < w.heap.size := cell_lt (hc 0 _ rfl)
      have f_0 : wo.cell? ⟨b1, o1 + l * 3, none⟩ = some (.string s2) := (hb2.cell (p := ⟨b1, o1 + l * 3, none⟩) f_lt).trans (by have h9 := hc 0 _ rfl; rw [← Nat.add_assoc] at h9; exact h9)
      have f_1 : wo.cell? ⟨b1, o1 + l * 3 + 1, none⟩ = some (.int .i64 i2) := (hb2.cell (p := ⟨b1, o1 + l * 3 + 1, none⟩) f_lt).trans (by have h9 := hc 1 _ rfl; rw [← Nat.add_assoc] at h9; exact h9)
      have f_2 : wo.cell? ⟨b1, o1 + l * 3 + 2, none⟩ = some (.slice tb2 tn2 tc2) := (hb2.cell (p := ⟨b1, o1 + l * 3 + 2, none⟩) f_lt).trans (by have h9 := hc 2 _ rfl; rw [← Nat.add_assoc] at h9; exact h9)
      have HA1 : Hid (dbFrom none x = (v && (ltB s2 s && dbFrom (prevN x (l + 1 + 1)) (x.drop (l + 1 + 1))))) := Lib.hid (by rw [HA.out, HP.out, HP2.out])
      clear hx hy HA HP HP2 t1 hc hr g2 hj0
      obtain ⟨q, hq⟩ : ∃ q, q = ltB s2 s := ⟨_, rfl⟩
      rw [← hq] at HA1
      have hq2 : Op.bytesLess s2.toList s.toList = q := hq.symm
      clear hq
      have hi63 : IntKind.i64.wrap (l : Int) = (l : Int) := IntWalk.i64_in _ (by omega)
      cases v with
      | false =>
        have HE := Lib.hid (validDb_no (db := x) (by rw [HA1.out]; rfl))
        go_wp2_with fail
        have rg_b_0 := cell_regrown b_0
        have rg_e_0 := cell_regrown e_0
        have rg_e_1 := cell_regrown e_1
        have rg_e_2 := cell_regrown e_2
        have rg_f_0 := cell_regrown f_0
        have rg_f_1 := cell_regrown f_1
        have rg_f_2 := cell_regrown f_2
        refine wp_region_quiet_below (by kernel_rfl) (by kernel_rfl) ?_
        repeat (go_big_quiet_step ((first | (go_at_call 44; exact Calls.regrown_of (HC.out _ (on hb2 (below_regrown _ _ _)))))))
        refine wpQuiet_nil ?_
        intro w7 hw7
        have z7 : Below wo.heap.size wo w7 := by obtain ⟨p9, e9⟩ := hw7; rw [e9]; exact below_regrown _ _ _
        clear hw7 rg_b_0 rg_e_0 rg_e_1 rg_e_2 rg_f_0 rg_f_1 rg_f_2
        have s8 := z7.size
        have hb8 := on hb2 z7
        replace b_0 := bxc z7 b_0
        replace hlc := on hlc z7
        replace e_0 := bxc z7 e_0
        replace e_1 := bxc z7 e_1
        replace e_2 := bxc z7 e_2
        replace f_0 := bxc z7 f_0
        replace f_1 := bxc z7 f_1
        replace f_2 := bxc z7 f_2
        clear hi63
        go_wp2_with fail
        go_ret
        exact ⟨ret_bool HE.out.symm, hb8⟩
      | true =>
        cases q with
        | false =>
          have HE := Lib.hid (validDb_no (db := x) (by rw [HA1.out]; rfl))
          go_wp2_with fail
          have rg_b_0 := cell_regrown b_0
          have rg_e_0 := cell_regrown e_0
          have rg_e_1 := cell_regrown e_1
          have rg_e_2 := cell_regrown e_2
          have rg_f_0 := cell_regrown f_0
          have rg_f_1 := cell_regrown f_1
          have rg_f_2 := cell_regrown f_2
          refine wp_region_quiet_below (by kernel_rfl) (by kernel_rfl) ?_
          repeat (go_big_quiet_step ((first | (go_at_call 44; exact Calls.regrown_of (HC.out _ (on hb2 (below_regrown _ _ _)))))))
          refine wpQuiet_nil ?_
          intro w9 hw9
          have z9 : Below wo.heap.size wo w9 := by obtain ⟨p9, e9⟩ := hw9; rw [e9]; exact below_regrown _ _ _
          clear hw9 rg_b_0 rg_e_0 rg_e_1 rg_e_2 rg_f_0 rg_f_1 rg_f_2
          have s10 := z9.size
          have hb10 := on hb2 z9
          replace b_0 := bxc z9 b_0
          replace hlc := on hlc z9
          replace e_0 := bxc z9 e_0
          replace e_1 := bxc z9 e_1
          replace e_2 := bxc z9 e_2
          replace f_0 := bxc z9 f_0
          replace f_1 := bxc z9 f_1
          replace f_2 := bxc z9 f_2
          clear hi63
          go_wp2_with fail
          go_ret
          exact ⟨ret_bool HE.out.symm, hb10⟩
        | true =>
          have HE : Hid (dbFrom none x = dbFrom (prevN x (l + 1 + 1)) (x.drop (l + 1 + 1))) := Lib.hid (by rw [HA1.out]; rfl)
          go_wp2_with fail
          have rg_b_0 := cell_regrown b_0
          have rg_e_0 := cell_regrown e_0
          have rg_e_1 := cell_regrown e_1
          have rg_e_2 := cell_regrown e_2
          have rg_f_0 := cell_regrown f_0
          have rg_f_1 := cell_regrown f_1
          have rg_f_2 := cell_regrown f_2
          refine wp_region_quiet_below (by kernel_rfl) (by kernel_rfl) ?_
          repeat (go_big_quiet_step ((first | (go_at_call 44; exact Calls.regrown_of (HC.out _ (on hb2 (below_regrown _ _ _)))))))
          refine wpQuiet_nil ?_
          intro w11 hw11
          have z11 : Below wo.heap.size wo w11 := by obtain ⟨p9, e9⟩ := hw11; rw [e9]; exact below_regrown _ _ _
          clear hw11 rg_b_0 rg_e_0 rg_e_1 rg_e_2 rg_f_0 rg_f_1 rg_f_2
          have s12 := z11.size
          have hb12 := on hb2 z11
          replace b_0 := bxc z11 b_0
          replace hlc := on hlc z11
          replace e_0 := bxc z11 e_0
          replace e_1 := bxc z11 e_1
          replace e_2 := bxc z11 e_2
          replace f_0 := bxc z11 f_0
          replace f_1 := bxc z11 f_1
          replace f_2 := bxc z11 f_2
          clear hi63
          go_wp2_with fail
          go_roundw
          case rel => exact ⟨l + 1 + 1, by omega, by go_num, HE.out, hlc⟩
          case measure => simp [intOf]; omega
    · have HE := Lib.hid (validDb_len HL.out (hE.out.trans (dbFrom_end (by have := HL.out; omega))))
      clear t1 hl hE HV
      go_wp2_with fail
      go_ret
      exact ⟨ret_bool (by rw [HE.out]), hb2⟩

end Go.Proofs.YtpgfkjcekhifiaaGreat
