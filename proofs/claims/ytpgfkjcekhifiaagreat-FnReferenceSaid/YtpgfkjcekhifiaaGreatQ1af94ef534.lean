/- Texts joined for one claim: Draw14, Draw16, Draw17. -/
import Derived.Test.YtpgfkjcekhifiaaGreatQ1106cfe184
import Derived.Test.YtpgfkjcekhifiaaGreatQ8839cde446
import Derived.Test.YtpgfkjcekhifiaaGreatQe74e6d6c2d
import Derived.Test.YtpgfkjcekhifiaaGreatQad766b37ad
import Derived.Test.YtpgfkjcekhifiaaGreatQ52736f1836
import Derived.Test.YtpgfkjcekhifiaaGreatQe819c45158
import Derived.Deep.RegionHeld3

namespace Go.Proofs.YtpgfkjcekhifiaaGreat

open Go.RowKit

set_option linter.unusedVariables false

set_option linter.unusedSimpArgs false

set_option synthInstance.maxSize 2000

set_option synthInstance.maxHeartbeats 400000

set_option maxRecDepth 100000 in
set_option maxHeartbeats 4000000 in
theorem l8Mask_any3 (w : World) (cb : Nat) (ba : Option Addr) (bn bc : Nat) (c0 : Int) (b : Option Addr) (n c : Nat) (hn1 : 1 ≤ n) (hn5 : n ≤ 5) (HC : Cur w cb ba bn bc) (hcb : cb < w.heap.size) :
    Calls Tryz.prog 24 #[.pointer (some ⟨cb, 0, none⟩), .agg #[.int .i64 c0, .slice b n c]] w fun e w' => ∃ k : Int, e = .returned (.int .i64 k) ∧ I64 k ∧ Cur w' cb ba bn bc ∧ Turn cb (cb + 1) w w' := by
  have ht0 : Turn cb (cb + 1) w w := (Kept.refl cb (cb + 1) w).turn
  go_enter Tryz.func24, Tryz.ntmps24
  obtain ⟨w1, hw1⟩ : ∃ W, W = w.alloc (.cells #[.int .i64 c0, .slice b n c] 29) := ⟨_, rfl⟩
  have z1 : Below w.heap.size w w1 := by rw [hw1]; exact (Below.refl _ _).alloc (Nat.le_refl _) _
  have s1 : w1.heap.size = w.heap.size + 1 := by rw [hw1]; simp
  have hb1 := turn_on' ht0 (z1.mono (by omega))
  replace HC := HC.below' z1 (by omega)
  have Q_0 : w1.cell? ⟨w.heap.size, 0, none⟩ = some (.int .i64 c0) := by rw [hw1]; exact box_cell (Below.refl _ _) rfl
  have Q_1 : w1.cell? ⟨w.heap.size, 1, none⟩ = some (.slice b n c) := by rw [hw1]; exact box_cell (Below.refl _ _) rfl
  have raw1_Q_0 := Q_0
  have raw1_Q_1 := Q_1
  rw [hw1] at raw1_Q_0 raw1_Q_1
  go_wp2_with fail
  rw [← hw1]
  clear hw1
  clear raw1_Q_0 raw1_Q_1
  go_wp2_with fail
  have HC_o := HC
  clear HC
  refine (l1Once_any _ cb ba bn bc 10 (by omega) HC_o).mono ?_
  rintro e w2 ⟨t, rfl, HC, z2⟩
  clear HC_o
  have s3 := Nat.le_of_eq z2.size
  have s3' := Nat.le_of_eq z2.size.symm
  replace z2 := z2.turn
  have hb3 := hb1.trans z2
  replace Q_0 := txc z2 Q_0
  replace Q_1 := txc z2 Q_1
  cases t with
  | true =>
    have h4 := ints_lit w2 [-1, 0, 16, 9223372036854775807] (i64_lits (by decide)) (by simp)
    obtain ⟨w4, hw4⟩ : ∃ W, W = w2.alloc (.cells #[.int .i64 (-1), .int .i64 0, .int .i64 16, .int .i64 9223372036854775807] 3) := ⟨_, rfl⟩
    have z4 : Below w2.heap.size w2 w4 := by rw [hw4]; exact (Below.refl _ _).alloc (Nat.le_refl _) _
    have s4 : w4.heap.size = w2.heap.size + 1 := by rw [hw4]; simp
    have hb4 := turn_on' hb3 (z4.mono (by omega))
    have old4_Q_0 := Q_0
    have old4_Q_1 := Q_1
    replace HC := HC.below' z4 (by omega)
    replace Q_0 := bxc z4 Q_0
    replace Q_1 := bxc z4 Q_1
    have P_0 : w4.cell? ⟨w2.heap.size, 0, none⟩ = some (.int .i64 (-1)) := by rw [hw4]; exact box_cell (Below.refl _ _) rfl
    have P_1 : w4.cell? ⟨w2.heap.size, 1, none⟩ = some (.int .i64 0) := by rw [hw4]; exact box_cell (Below.refl _ _) rfl
    have P_2 : w4.cell? ⟨w2.heap.size, 2, none⟩ = some (.int .i64 16) := by rw [hw4]; exact box_cell (Below.refl _ _) rfl
    have P_3 : w4.cell? ⟨w2.heap.size, 3, none⟩ = some (.int .i64 9223372036854775807) := by rw [hw4]; exact box_cell (Below.refl _ _) rfl
    have raw4_Q_0 := Q_0
    have raw4_Q_1 := Q_1
    have raw4_P_0 := P_0
    have raw4_P_1 := P_1
    have raw4_P_2 := P_2
    have raw4_P_3 := P_3
    rw [hw4] at raw4_Q_0 raw4_Q_1 raw4_P_0 raw4_P_1 raw4_P_2 raw4_P_3
    replace h4 : Ints w4 (some ⟨w2.heap.size, 0, none⟩) 4 [-1, 0, 16, 9223372036854775807] := by rw [hw4]; exact h4
    clear P_0 P_1 P_2 P_3
    go_wp2_with fail
    rw [← hw4]
    clear hw4
    clear old4_Q_0 old4_Q_1 raw4_Q_0 raw4_Q_1 raw4_P_0 raw4_P_1 raw4_P_2 raw4_P_3
    have HC_o := HC
    clear HC
    refine (l1PickInt_any _ cb ba bn bc _ 4 4 _ (by omega) (by omega) h4 (by omega) HC_o).mono ?_
    rintro e w5 ⟨y, rfl, hy, HC, z5⟩
    clear HC_o
    have s6 := Nat.le_of_eq z5.size
    have s6' := Nat.le_of_eq z5.size.symm
    replace z5 := z5.turn
    have hb6 := hb4.trans z5
    replace Q_0 := txc z5 Q_0
    replace Q_1 := txc z5 Q_1
    have hy64 : I64 y := h4.rng y hy
    clear h4 hy
    go_wp2_with fail
    go_ret
    exact ⟨y, rfl, hy64, HC, hb6⟩
  | false =>
    rcases (by omega : n = 1 ∨ n = 2 ∨ n = 3 ∨ n = 4 ∨ n = 5) with rfl | rfl | rfl | rfl | rfl
    · skip
      clear hn1 hn5
      go_wp2_with fail
      try rw [show wrap64 ((2 : Int) ^ (min (4 : Int) 1).toNat) = 2 from by decide +kernel]
      have HC_o := HC
      clear HC
      refine (l1Below_any _ cb ba bn bc 2 (by omega) HC_o).mono ?_
      rintro e w7 ⟨k, rfl, hk0, hk1, hk2, HC, z7⟩
      clear HC_o
      have s8 := Nat.le_of_eq z7.size
      have s8' := Nat.le_of_eq z7.size.symm
      replace z7 := z7.turn
      have hb8 := hb3.trans z7
      replace Q_0 := txc z7 Q_0
      replace Q_1 := txc z7 Q_1
      have hk64 : I64 k := ⟨by omega, by omega⟩
      clear hk0 hk1 hk2
      go_wp2_with fail
      go_ret
      exact ⟨k, rfl, hk64, HC, hb8⟩
    · skip
      clear hn1 hn5
      go_wp2_with fail
      try rw [show wrap64 ((2 : Int) ^ (min (4 : Int) 2).toNat) = 4 from by decide +kernel]
      have HC_o := HC
      clear HC
      refine (l1Below_any _ cb ba bn bc 4 (by omega) HC_o).mono ?_
      rintro e w9 ⟨k, rfl, hk0, hk1, hk2, HC, z9⟩
      clear HC_o
      have s10 := Nat.le_of_eq z9.size
      have s10' := Nat.le_of_eq z9.size.symm
      replace z9 := z9.turn
      have hb10 := hb3.trans z9
      replace Q_0 := txc z9 Q_0
      replace Q_1 := txc z9 Q_1
      have hk64 : I64 k := ⟨by omega, by omega⟩
      clear hk0 hk1 hk2
      go_wp2_with fail
      go_ret
      exact ⟨k, rfl, hk64, HC, hb10⟩
    · skip
      clear hn1 hn5
      go_wp2_with fail
      try rw [show wrap64 ((2 : Int) ^ (min (4 : Int) 3).toNat) = 8 from by decide +kernel]
      have HC_o := HC
      clear HC
      refine (l1Below_any _ cb ba bn bc 8 (by omega) HC_o).mono ?_
      rintro e w11 ⟨k, rfl, hk0, hk1, hk2, HC, z11⟩
      clear HC_o
      have s12 := Nat.le_of_eq z11.size
      have s12' := Nat.le_of_eq z11.size.symm
      replace z11 := z11.turn
      have hb12 := hb3.trans z11
      replace Q_0 := txc z11 Q_0
      replace Q_1 := txc z11 Q_1
      have hk64 : I64 k := ⟨by omega, by omega⟩
      clear hk0 hk1 hk2
      go_wp2_with fail
      go_ret
      exact ⟨k, rfl, hk64, HC, hb12⟩
    · skip
      clear hn1 hn5
      go_wp2_with fail
      try rw [show wrap64 ((2 : Int) ^ (min (4 : Int) 4).toNat) = 16 from by decide +kernel]
      have HC_o := HC
      clear HC
      refine (l1Below_any _ cb ba bn bc 16 (by omega) HC_o).mono ?_
      rintro e w13 ⟨k, rfl, hk0, hk1, hk2, HC, z13⟩
      clear HC_o
      have s14 := Nat.le_of_eq z13.size
      have s14' := Nat.le_of_eq z13.size.symm
      replace z13 := z13.turn
      have hb14 := hb3.trans z13
      replace Q_0 := txc z13 Q_0
      replace Q_1 := txc z13 Q_1
      have hk64 : I64 k := ⟨by omega, by omega⟩
      clear hk0 hk1 hk2
      go_wp2_with fail
      go_ret
      exact ⟨k, rfl, hk64, HC, hb14⟩
    · skip
      clear hn1 hn5
      go_wp2_with fail
      try rw [show wrap64 ((2 : Int) ^ (min (4 : Int) 5).toNat) = 16 from by decide +kernel]
      have HC_o := HC
      clear HC
      refine (l1Below_any _ cb ba bn bc 16 (by omega) HC_o).mono ?_
      rintro e w15 ⟨k, rfl, hk0, hk1, hk2, HC, z15⟩
      clear HC_o
      have s16 := Nat.le_of_eq z15.size
      have s16' := Nat.le_of_eq z15.size.symm
      replace z15 := z15.turn
      have hb16 := hb3.trans z15
      replace Q_0 := txc z15 Q_0
      replace Q_1 := txc z15 Q_1
      have hk64 : I64 k := ⟨by omega, by omega⟩
      clear hk0 hk1 hk2
      go_wp2_with fail
      go_ret
      exact ⟨k, rfl, hk64, HC, hb16⟩

end Go.Proofs.YtpgfkjcekhifiaaGreat

namespace Go.Proofs.YtpgfkjcekhifiaaGreat

open Go.RowKit

set_option linter.unusedVariables false

set_option linter.unusedSimpArgs false

set_option synthInstance.maxSize 2000

set_option synthInstance.maxHeartbeats 400000

theorem cell_off {w w' : World} {p q : Addr} {u v : Value} (hw : w' = w.setCell p u) (h : p.block ≠ q.block) (hq : w.cell? q = some v) : w'.cell? q = some v := by
  subst hw
  refine (World.cell?_of_block (a := q) ?_).trans hq
  rw [Below.heap_setCell _ _ _ _ (by omega)]

theorem froz_off {w w' : World} {p q : Addr} {u : Value} {b : Bool} (hw : w' = w.setCell p u) (h : p.block ≠ q.block) (hq : w.frozen? q = b) : w'.frozen? q = b := by
  subst hw
  refine (World.frozen?_of_block (a := q) ?_).trans hq
  rw [Below.heap_setCell _ _ _ _ (by omega)]

set_option maxRecDepth 100000 in
set_option maxHeartbeats 16000000 in
theorem l9Pair_any (w : World) (cb : Nat) (ba : Option Addr) (bn bc : Nat) (HC : Cur w cb ba bn bc) (hcb : cb < w.heap.size) :
    Calls Tryz.prog 23 #[.pointer (some ⟨cb, 0, none⟩)] w fun e w' => ∃ (b : Option Addr) (n c : Nat) (db : List DT) (c0 : Int) (qb : Option Addr) (qn qc : Nat) (x : DQ), e = .returned (.tuple #[.agg #[.slice b n c], .agg #[.int .i64 c0, .slice qb qn qc]]) ∧ DrawnDb w.heap.size w'.heap.size w' b n c db ∧ Own oQ w.heap.size w'.heap.size w' [.int .i64 c0, .slice qb qn qc] x ∧ (1 ≤ x.2.length ∧ x.2.length ≤ 5) ∧ Cur w' cb ba bn bc ∧ Turn cb (cb + 1) w w' := by
  have ht0 : Turn cb (cb + 1) w w := (Kept.refl cb (cb + 1) w).turn
  have ht0 : Turn cb (cb + 1) w w := (Kept.refl cb (cb + 1) w).turn
  go_enter Tryz.func23, Tryz.ntmps23
  obtain ⟨w1, hw1⟩ : ∃ W, W = w.alloc (.cells #[.slice none 0 0] 26) := ⟨_, rfl⟩
  have z1 : Below w.heap.size w w1 := by rw [hw1]; exact (Below.refl _ _).alloc (Nat.le_refl _) _
  have s1 : w1.heap.size = w.heap.size + 1 := by rw [hw1]; simp
  have hb1 := turn_on' ht0 (z1.mono (by omega))
  replace HC := HC.below' z1 (by omega)
  have R_0 : w1.cell? ⟨w.heap.size, 0, none⟩ = some (.slice none 0 0) := by rw [hw1]; exact box_cell (Below.refl _ _) rfl
  have R_f0 : w1.frozen? ⟨w.heap.size, 0, none⟩ = false := by rw [hw1]; exact box_frozen (Below.refl _ _)
  have raw1_R_0 := R_0
  have raw1_R_f0 := R_f0
  rw [hw1] at raw1_R_0 raw1_R_f0
  obtain ⟨w2, hw2⟩ : ∃ W, W = w1.alloc (.cells #[.int .i64 0, .slice none 0 0] 29) := ⟨_, rfl⟩
  have z2 : Below w1.heap.size w1 w2 := by rw [hw2]; exact (Below.refl _ _).alloc (Nat.le_refl _) _
  have s2 : w2.heap.size = w1.heap.size + 1 := by rw [hw2]; simp
  have hb2 := turn_on' hb1 (z2.mono (by omega))
  replace HC := HC.below' z2 (by omega)
  replace R_0 := bxc z2 R_0
  replace R_f0 := bxf z2 R_f0
  have e2 : w1.heap.size = w.heap.size + 1 := by omega
  have S_0 : w2.cell? ⟨w1.heap.size, 0, none⟩ = some (.int .i64 0) := by rw [hw2]; exact box_cell (Below.refl _ _) rfl
  have S_1 : w2.cell? ⟨w1.heap.size, 1, none⟩ = some (.slice none 0 0) := by rw [hw2]; exact box_cell (Below.refl _ _) rfl
  rw [e2] at S_0 S_1
  have S_f0 : w2.frozen? ⟨w1.heap.size, 0, none⟩ = false := by rw [hw2]; exact box_frozen (Below.refl _ _)
  have S_f1 : w2.frozen? ⟨w1.heap.size, 1, none⟩ = false := by rw [hw2]; exact box_frozen (Below.refl _ _)
  rw [e2] at S_f0 S_f1
  have raw2_R_0 := R_0
  have raw2_R_f0 := R_f0
  have raw2_S_0 := S_0
  have raw2_S_1 := S_1
  have raw2_S_f0 := S_f0
  have raw2_S_f1 := S_f1
  rw [hw2, hw1] at raw2_R_0 raw2_R_f0 raw2_S_0 raw2_S_1 raw2_S_f0 raw2_S_f1
  go_wp2_with fail
  obtain ⟨lo4, hlo4⟩ : ∃ q, q = w2.heap.size := ⟨_, rfl⟩
  go_wp2_with fail
  rw [← hw1]
  rw [← hw2]
  clear hw2 hw1
  clear raw1_R_0 raw1_R_f0 raw2_R_0 raw2_R_f0 raw2_S_0 raw2_S_1 raw2_S_f0 raw2_S_f1
  have HC_o := HC
  clear HC
  refine (l5Db_any _ cb ba bn bc HC_o (by omega)).mono ?_
  rintro e w3 ⟨g, n, c, ts, rfl, hts, hn5, od0, HC, z3⟩
  clear HC_o
  have s4 := z3.size
  have hb4 := hb2.trans z3
  replace R_0 := txc z3 R_0
  replace R_f0 := txf z3 R_f0
  replace S_0 := txc z3 S_0
  replace S_1 := txc z3 S_1
  replace S_f0 := txf z3 S_f0
  replace S_f1 := txf z3 S_f1
  rw [← hlo4] at od0
  obtain ⟨hi5, hhi5⟩ : ∃ q, q = w3.heap.size := ⟨_, rfl⟩
  rw [← hhi5] at od0
  have od := DrawnDb.of od0
  clear od0 hts hn5
  have hlh : w.heap.size + 1 + 1 ≤ lo4 ∧ cb + 1 ≤ lo4 ∧ lo4 ≤ hi5 := by omega
  obtain ⟨w5, hw5⟩ : ∃ W, W = w3.alloc (.cells #[.slice (some ⟨g, 0, none⟩) n c] 26) := ⟨_, rfl⟩
  have z5 : Below w3.heap.size w3 w5 := by rw [hw5]; exact (Below.refl _ _).alloc (Nat.le_refl _) _
  have s5 : w5.heap.size = w3.heap.size + 1 := by rw [hw5]; simp
  have hb5 := turn_on' hb4 (z5.mono (by omega))
  have old5_R_0 := R_0
  have old5_S_0 := S_0
  have old5_S_1 := S_1
  replace HC := HC.below' z5 (by omega)
  replace R_0 := bxc z5 R_0
  replace R_f0 := bxf z5 R_f0
  replace S_0 := bxc z5 S_0
  replace S_1 := bxc z5 S_1
  replace S_f0 := bxf z5 S_f0
  replace S_f1 := bxf z5 S_f1
  replace od := od.below z5 (by omega)
  have D_0 : w5.cell? ⟨w3.heap.size, 0, none⟩ = some (.slice (some ⟨g, 0, none⟩) n c) := by rw [hw5]; exact box_cell (Below.refl _ _) rfl
  have D_f0 : w5.frozen? ⟨w3.heap.size, 0, none⟩ = false := by rw [hw5]; exact box_frozen (Below.refl _ _)
  have raw5_R_0 := R_0
  have raw5_R_f0 := R_f0
  have raw5_S_0 := S_0
  have raw5_S_1 := S_1
  have raw5_S_f0 := S_f0
  have raw5_S_f1 := S_f1
  have raw5_D_0 := D_0
  have raw5_D_f0 := D_f0
  rw [hw5] at raw5_R_0 raw5_R_f0 raw5_S_0 raw5_S_1 raw5_S_f0 raw5_S_f1 raw5_D_0 raw5_D_f0
  go_wp2_with fail
  rw [← hw5]
  clear hw5
  clear old5_R_0 old5_S_0 old5_S_1 raw5_R_0 raw5_R_f0 raw5_S_0 raw5_S_1 raw5_S_f0 raw5_S_f1 raw5_D_0 raw5_D_f0
  obtain ⟨lo6, hlo6⟩ : ∃ q, q = w5.heap.size := ⟨_, rfl⟩
  have HC_o := HC
  clear HC
  refine (l7Query_any _ cb ba bn bc HC_o (by omega)).mono ?_
  rintro e w6 ⟨c0, qb, qn, qc, x, rfl, oq, hval, HC, z6⟩
  clear HC_o
  have s7 := z6.size
  have hb7 := hb5.trans z6
  replace R_0 := txc z6 R_0
  replace R_f0 := txf z6 R_f0
  replace S_0 := txc z6 S_0
  replace S_1 := txc z6 S_1
  replace S_f0 := txf z6 S_f0
  replace S_f1 := txf z6 S_f1
  replace od := od.turn z6 (by omega)
  replace D_0 := txc z6 D_0
  replace D_f0 := txf z6 D_f0
  rw [← hlo6] at oq
  obtain ⟨hi7, hhi7⟩ : ∃ q, q = w6.heap.size := ⟨_, rfl⟩
  rw [← hhi7] at oq
  have hx15 : 1 ≤ x.2.length ∧ x.2.length ≤ 5 := by
    obtain ⟨_, h9, _⟩ := valid_shape hval
    omega
  clear hval
  have hlh2 : w3.heap.size + 1 ≤ lo6 ∧ lo6 ≤ hi7 := by omega
  obtain ⟨w8, hw8⟩ : ∃ W, W = w6.alloc (.cells #[.int .i64 c0, .slice qb qn qc] 29) := ⟨_, rfl⟩
  have z8 : Below w6.heap.size w6 w8 := by rw [hw8]; exact (Below.refl _ _).alloc (Nat.le_refl _) _
  have s8 : w8.heap.size = w6.heap.size + 1 := by rw [hw8]; simp
  have hb8 := turn_on' hb7 (z8.mono (by omega))
  have old8_R_0 := R_0
  have old8_S_0 := S_0
  have old8_S_1 := S_1
  have old8_D_0 := D_0
  replace HC := HC.below' z8 (by omega)
  replace R_0 := bxc z8 R_0
  replace R_f0 := bxf z8 R_f0
  replace S_0 := bxc z8 S_0
  replace S_1 := bxc z8 S_1
  replace S_f0 := bxf z8 S_f0
  replace S_f1 := bxf z8 S_f1
  replace od := od.below z8 (by omega)
  replace D_0 := bxc z8 D_0
  replace D_f0 := bxf z8 D_f0
  replace oq := oq.below z8 (by omega)
  have Q_0 : w8.cell? ⟨w6.heap.size, 0, none⟩ = some (.int .i64 c0) := by rw [hw8]; exact box_cell (Below.refl _ _) rfl
  have Q_1 : w8.cell? ⟨w6.heap.size, 1, none⟩ = some (.slice qb qn qc) := by rw [hw8]; exact box_cell (Below.refl _ _) rfl
  have Q_f0 : w8.frozen? ⟨w6.heap.size, 0, none⟩ = false := by rw [hw8]; exact box_frozen (Below.refl _ _)
  have Q_f1 : w8.frozen? ⟨w6.heap.size, 1, none⟩ = false := by rw [hw8]; exact box_frozen (Below.refl _ _)
  have raw8_R_0 := R_0
  have raw8_R_f0 := R_f0
  have raw8_S_0 := S_0
  have raw8_S_1 := S_1
  have raw8_S_f0 := S_f0
  have raw8_S_f1 := S_f1
  have raw8_D_0 := D_0
  have raw8_D_f0 := D_f0
  have raw8_Q_0 := Q_0
  have raw8_Q_1 := Q_1
  have raw8_Q_f0 := Q_f0
  have raw8_Q_f1 := Q_f1
  rw [hw8] at raw8_R_0 raw8_R_f0 raw8_S_0 raw8_S_1 raw8_S_f0 raw8_S_f1 raw8_D_0 raw8_D_f0 raw8_Q_0 raw8_Q_1 raw8_Q_f0 raw8_Q_f1
  go_wp2_with fail
  rw [← hw8]
  clear hw8
  clear old8_R_0 old8_S_0 old8_S_1 old8_D_0 raw8_R_0 raw8_R_f0 raw8_S_0 raw8_S_1 raw8_S_f0 raw8_S_f1 raw8_D_0 raw8_D_f0 raw8_Q_0 raw8_Q_1 raw8_Q_f0 raw8_Q_f1
  go_wp2_with fail
  have HC_o := HC
  clear HC
  refine (l1Once_any _ cb ba bn bc 14 (by omega) HC_o).mono ?_
  rintro e w9 ⟨t1, rfl, HC, z9⟩
  clear HC_o
  have s10 := Nat.le_of_eq z9.size
  have s10' := Nat.le_of_eq z9.size.symm
  replace z9 := z9.turn
  have hb10 := hb8.trans z9
  replace R_0 := txc z9 R_0
  replace R_f0 := txf z9 R_f0
  replace S_0 := txc z9 S_0
  replace S_1 := txc z9 S_1
  replace S_f0 := txf z9 S_f0
  replace S_f1 := txf z9 S_f1
  replace od := od.turn z9 (by omega)
  replace D_0 := txc z9 D_0
  replace D_f0 := txf z9 D_f0
  replace oq := oq.turn z9 (by omega)
  replace Q_0 := txc z9 Q_0
  replace Q_1 := txc z9 Q_1
  replace Q_f0 := txf z9 Q_f0
  replace Q_f1 := txf z9 Q_f1
  cases t1 with
  | true =>
    obtain ⟨lo8, hlo8⟩ : ∃ q, q = w9.heap.size := ⟨_, rfl⟩
    go_wp2_with fail
    have HC_o := HC
    clear HC
    refine (l7Any_any _ cb ba bn bc HC_o (by omega)).mono ?_
    rintro e w11 ⟨c1, rb, rn, rc, y, rfl, oq2, hy15, HC, z11⟩
    clear HC_o
    have s12 := z11.size
    have hb12 := hb10.trans z11
    replace R_0 := txc z11 R_0
    replace R_f0 := txf z11 R_f0
    replace S_0 := txc z11 S_0
    replace S_1 := txc z11 S_1
    replace S_f0 := txf z11 S_f0
    replace S_f1 := txf z11 S_f1
    replace od := od.turn z11 (by omega)
    replace D_0 := txc z11 D_0
    replace D_f0 := txf z11 D_f0
    replace oq := oq.turn z11 (by omega)
    replace Q_0 := txc z11 Q_0
    replace Q_1 := txc z11 Q_1
    replace Q_f0 := txf z11 Q_f0
    replace Q_f1 := txf z11 Q_f1
    rw [← hlo8] at oq2
    obtain ⟨hi9, hhi9⟩ : ∃ q, q = w11.heap.size := ⟨_, rfl⟩
    rw [← hhi9] at oq2
    have hlh3 : w6.heap.size + 1 ≤ lo8 ∧ lo8 ≤ hi9 := by omega
    go_wp2_with fail
    obtain ⟨wS, hwS⟩ : ∃ W, W = (w11.setCell ⟨w6.heap.size, 0, none⟩ (.int .i64 c1)).setCell ⟨w6.heap.size, 1, none⟩ (.slice rb rn rc) := ⟨_, rfl⟩
    rw [← hwS]
    have zS : Below (w6.heap.size) w11 wS := by
      rw [hwS]
      repeat (refine Below.setCell ?_ (by simp only []; omega) _)
      exact Below.refl _ _
    have sS : wS.heap.size = w11.heap.size := by rw [hwS]; simp [World.setCell]
    replace R_0 := bxc zS R_0
    replace R_f0 := bxf zS R_f0
    replace S_0 := bxc zS S_0
    replace S_f0 := bxf zS S_f0
    replace S_1 := bxc zS S_1
    replace S_f1 := bxf zS S_f1
    replace D_0 := bxc zS D_0
    replace D_f0 := bxf zS D_f0
    have q_0 : wS.cell? ⟨w6.heap.size, 0, none⟩ = some (.int .i64 c1) := by rw [hwS]; simp [go_sem, Q_0, Q_1]
    have q_1 : wS.cell? ⟨w6.heap.size, 1, none⟩ = some (.slice rb rn rc) := by rw [hwS]; simp [go_sem, Q_0, Q_1]
    replace Q_f0 : wS.frozen? ⟨w6.heap.size, 0, none⟩ = false := by rw [hwS]; simp [go_sem, Q_f0, Q_f1]
    replace Q_f1 : wS.frozen? ⟨w6.heap.size, 1, none⟩ = false := by rw [hwS]; simp [go_sem, Q_f0, Q_f1]
    replace od := od.below zS (by omega)
    replace HC := HC.below' zS (by omega)
    replace oq2 : Own oQ lo8 hi9 wS [.int .i64 c1, .slice rb rn rc] y := by
      rw [hwS]
      exact own_off (own_off oq2 rfl (by simp only []; omega)) rfl (by simp only []; omega)
    have tS := turn_on' hb12 (zS.mono (by omega))
    have sS1 : w11.heap.size ≤ wS.heap.size := by omega
    clear hwS
    clear oq Q_0 Q_1
    go_wp2_with fail
    go_wp2_with fail
    have HC_o := HC
    clear HC
    refine (l1Once_any _ cb ba bn bc 20 (by omega) HC_o).mono ?_
    rintro e w13 ⟨t2, rfl, HC, z13⟩
    clear HC_o
    have s14 := Nat.le_of_eq z13.size
    have s14' := Nat.le_of_eq z13.size.symm
    replace z13 := z13.turn
    have hb14 := tS.trans z13
    replace R_0 := txc z13 R_0
    replace R_f0 := txf z13 R_f0
    replace S_0 := txc z13 S_0
    replace S_1 := txc z13 S_1
    replace S_f0 := txf z13 S_f0
    replace S_f1 := txf z13 S_f1
    replace od := od.turn z13 (by omega)
    replace D_0 := txc z13 D_0
    replace D_f0 := txf z13 D_f0
    replace Q_f0 := txf z13 Q_f0
    replace Q_f1 := txf z13 Q_f1
    replace oq2 := oq2.turn z13 (by omega)
    replace q_0 := txc z13 q_0
    replace q_1 := txc z13 q_1
    cases t2 with
    | true =>
      obtain ⟨lo10, hlo10⟩ : ∃ q, q = w13.heap.size := ⟨_, rfl⟩
      go_wp2_with fail
      have HC_o := HC
      clear HC
      refine (l5Any_any _ cb ba bn bc HC_o (by omega)).mono ?_
      rintro e w15 ⟨eb, en, ec, db, rfl, od2, HC, z15⟩
      clear HC_o
      have s16 := z15.size
      have hb16 := hb14.trans z15
      replace R_0 := txc z15 R_0
      replace R_f0 := txf z15 R_f0
      replace S_0 := txc z15 S_0
      replace S_1 := txc z15 S_1
      replace S_f0 := txf z15 S_f0
      replace S_f1 := txf z15 S_f1
      replace od := od.turn z15 (by omega)
      replace D_0 := txc z15 D_0
      replace D_f0 := txf z15 D_f0
      replace Q_f0 := txf z15 Q_f0
      replace Q_f1 := txf z15 Q_f1
      replace oq2 := oq2.turn z15 (by omega)
      replace q_0 := txc z15 q_0
      replace q_1 := txc z15 q_1
      rw [← hlo10] at od2
      obtain ⟨hi11, hhi11⟩ : ∃ q, q = w15.heap.size := ⟨_, rfl⟩
      rw [← hhi11] at od2
      have hlh4 : w6.heap.size + 1 ≤ lo10 ∧ lo10 ≤ hi11 := by omega
      go_wp2_with fail
      obtain ⟨wT, hwT⟩ : ∃ W, W = w15.setCell ⟨w3.heap.size, 0, none⟩ (.slice eb en ec) := ⟨_, rfl⟩
      rw [← hwT]
      have zT : Below (w3.heap.size) w15 wT := by rw [hwT]; exact Below.setCell (Below.refl _ _) (by simp only []; omega) _
      have sT : wT.heap.size = w15.heap.size := by rw [hwT]; simp [World.setCell]
      replace R_0 := bxc zT R_0
      replace R_f0 := bxf zT R_f0
      replace S_0 := bxc zT S_0
      replace S_f0 := bxf zT S_f0
      replace S_1 := bxc zT S_1
      replace S_f1 := bxf zT S_f1
      replace q_0 := cell_off hwT (by simp only []; omega) q_0
      replace q_1 := cell_off hwT (by simp only []; omega) q_1
      have d_0 : wT.cell? ⟨w3.heap.size, 0, none⟩ = some (.slice eb en ec) := by rw [hwT]; simp [go_sem, D_0]
      replace oq2 := own_off oq2 hwT (by simp only []; omega)
      replace od2 := od2.off hwT (by simp only []; omega)
      replace HC := HC.below' zT (by omega)
      have tT := turn_on' hb16 (zT.mono (by omega))
      have sT1 : w15.heap.size ≤ wT.heap.size := by omega
      clear hwT
      clear od D_0 D_f0 Q_f0 Q_f1
      go_wp2_with fail
      have hdr : Below wT.heap.size wT wT.drew := (Below.refl _ _).drew
      refine wp_region_noPanic ?_
      refine wp_region_held_drew (S := (fun W => W.cell? ⟨w3.heap.size, 0, none⟩ = some (.slice eb en ec) ∧ W.cell? ⟨w6.heap.size, 0, none⟩ = some (.int .i64 c1) ∧ W.cell? ⟨w6.heap.size, 1, none⟩ = some (.slice rb rn rc))) (by kernel_rfl) ?hS17 (fun hHeld => ?_)
      case hS17 => exact ⟨d_0, q_0, q_1⟩
      refine wpAnyH_take (i := 0) (v := ?v0_18) rfl (by kernel_rfl) (by kernel_rfl) (by kernel_rfl) (fun _ _ _ h => h) (Or.inl ⟨by rfl, ?hy0_18⟩) (by assumption) ?rest0_18
      case hy0_18 => intro w hSw; (try dsimp only at hSw); go_simp; (try with_reducible rfl)
      try simp only [Act.put, lgA, lgB, lgC, lgD, lgE, lgF]
      refine wpAnyH_take (i := 1) (v := ?v1_19) rfl (by kernel_rfl) (by kernel_rfl) (by kernel_rfl) (fun _ _ _ h => h) (Or.inl ⟨by rfl, ?hy1_19⟩) (by assumption) ?rest1_19
      case hy1_19 => intro w hSw; (try dsimp only at hSw); go_simp; (try with_reducible rfl)
      try simp only [Act.put, lgA, lgB, lgC, lgD, lgE, lgF]
      obtain ⟨wA, hwA⟩ : ∃ W, W = wT.drew := ⟨_, rfl⟩
      have zA : Below wT.heap.size wT wA := by rw [hwA]; exact hdr
      rw [← hwA]
      clear hwA
      have sA := zA.size
      have aC := HC.below' zA (by omega)
      have aT := turn_on' tT (zA.mono (by omega))
      have aD := od2.below zA (by omega)
      have aQ := oq2.below zA (by omega)
      have aR_0 := bxc zA R_0
      have aR_f0 := bxf zA R_f0
      have aS_0 := bxc zA S_0
      have aS_f0 := bxf zA S_f0
      have aS_1 := bxc zA S_1
      have aS_f1 := bxf zA S_f1
      have aD_0 := bxc zA d_0
      have aQ_0 := bxc zA q_0
      have aQ_1 := bxc zA q_1
      refine wpAnyH_ready (rs := [2]) (by kernel_rfl) (by simp) ?_
      refine AllReadyH.cons rfl (fun K9 hK9 => ?_) AllReadyH.nil
      go_simp
      obtain ⟨wE, hwE⟩ : ∃ W, W = wA.setCell ⟨w.heap.size, 0, none⟩ (.slice eb en ec) := ⟨_, rfl⟩
      rw [← hwE]
      have zE : Below w.heap.size wA wE := by rw [hwE]; exact Below.setCell (Below.refl _ _) (by simp only []; omega) _
      have sE : wE.heap.size = wA.heap.size := by rw [hwE]; simp [World.setCell]
      have eS_0 := cell_off hwE (by simp only []; omega) aS_0
      have eS_f0 := froz_off hwE (by simp only []; omega) aS_f0
      have eS_1 := cell_off hwE (by simp only []; omega) aS_1
      have eS_f1 := froz_off hwE (by simp only []; omega) aS_f1
      have eD_0 := cell_off hwE (by simp only []; omega) aD_0
      have eQ_0 := cell_off hwE (by simp only []; omega) aQ_0
      have eQ_1 := cell_off hwE (by simp only []; omega) aQ_1
      have eR_0 : wE.cell? ⟨w.heap.size, 0, none⟩ = some (.slice eb en ec) := by rw [hwE]; simp [go_sem, aR_0]
      have eR_f0 : wE.frozen? ⟨w.heap.size, 0, none⟩ = false := by rw [hwE]; simp [go_sem, aR_f0]
      have eD := aD.off hwE (by simp only []; omega)
      have eQ := own_off aQ hwE (by simp only []; omega)
      have eC := aC.below' zE (by omega)
      have eT := turn_on' aT zE
      clear hwE
      refine hK9.out _ _ ⟨eD_0, eQ_0, eQ_1⟩ (fun hHeld => ?_)
      clear hK9 K9
      try simp only [Act.put, lgA, lgB, lgC, lgD, lgE, lgF]
      refine wpAnyH_ready (rs := [3]) (by kernel_rfl) (by simp) ?_
      refine AllReadyH.cons rfl (fun K9 hK9 => ?_) AllReadyH.nil
      go_simp
      obtain ⟨wM, hwM⟩ : ∃ W, W = wE.setCell ⟨w.heap.size + 1, 0, none⟩ (.int .i64 c1) := ⟨_, rfl⟩
      obtain ⟨wF, hwF⟩ : ∃ W, W = wM.setCell ⟨w.heap.size + 1, 1, none⟩ (.slice rb rn rc) := ⟨_, rfl⟩
      rw [← hwM, ← hwF]
      have zM : Below w.heap.size wE wM := by rw [hwM]; exact Below.setCell (Below.refl _ _) (by simp only []; omega) _
      have zF0 : Below w.heap.size wM wF := by rw [hwF]; exact Below.setCell (Below.refl _ _) (by simp only []; omega) _
      have zF : Below w.heap.size wE wF := zM.trans zF0
      have sF : wF.heap.size = wE.heap.size := by rw [hwF, hwM]; simp [World.setCell]
      have fR_0 := cell_off hwF (by simp only []; omega) (cell_off hwM (by simp only []; omega) eR_0)
      have fR_f0 := froz_off hwF (by simp only []; omega) (froz_off hwM (by simp only []; omega) eR_f0)
      have fD_0 := cell_off hwF (by simp only []; omega) (cell_off hwM (by simp only []; omega) eD_0)
      have fQ_0 := cell_off hwF (by simp only []; omega) (cell_off hwM (by simp only []; omega) eQ_0)
      have fQ_1 := cell_off hwF (by simp only []; omega) (cell_off hwM (by simp only []; omega) eQ_1)
      have fS_0 : wF.cell? ⟨w.heap.size + 1, 0, none⟩ = some (.int .i64 c1) := by rw [hwF, hwM]; simp [go_sem, eS_0, eS_1]
      have fS_1 : wF.cell? ⟨w.heap.size + 1, 1, none⟩ = some (.slice rb rn rc) := by rw [hwF, hwM]; simp [go_sem, eS_0, eS_1]
      have fS_f0 : wF.frozen? ⟨w.heap.size + 1, 0, none⟩ = false := by rw [hwF, hwM]; simp [go_sem, eS_f0, eS_f1]
      have fS_f1 : wF.frozen? ⟨w.heap.size + 1, 1, none⟩ = false := by rw [hwF, hwM]; simp [go_sem, eS_f0, eS_f1]
      have fD := (eD.off hwM (by simp only []; omega)).off hwF (by simp only []; omega)
      have fQ := own_off (own_off eQ hwM (by simp only []; omega)) hwF (by simp only []; omega)
      have fC := eC.below' zF (by omega)
      have fT := turn_on' eT zF
      clear hwF hwM
      refine hK9.out _ _ ⟨fD_0, fQ_0, fQ_1⟩ (fun hHeld => ?_)
      clear hK9 K9
      try simp only [Act.put, lgA, lgB, lgC, lgD, lgE, lgF]
      refine wpAnyH_done (by kernel_rfl) ?_ _
      refine NoPanic.normal ?_
      have fT9 := Lib.hid fT
      have fC9 := Lib.hid fC
      have fD9 := Lib.hid fD
      have fQ9 := Lib.hid fQ
      clear fT fC fD fQ aC aT aD aQ eC eT eD eQ
      go_wp2_with fail
      refine bodyPost_ret (v := .tuple #[.agg #[.slice eb en ec], .agg #[.int .i64 c1, .slice rb rn rc]]) (by simp [results, Tryz.results23, go_sem, fR_0, fR_f0, fS_0, fS_1, fS_f0, fS_f1]) rfl ⟨_, _, _, _, _, _, _, _, _, rfl, fD9.out.mono (by omega) (by omega), fQ9.out.mono (by omega) (by omega), hy15, fC9.out, fT9.out⟩
    | false =>
      go_wp2_with fail
      have hdr : Below w13.heap.size w13 w13.drew := (Below.refl _ _).drew
      refine wp_region_noPanic ?_
      refine wp_region_held_drew (S := (fun W => W.cell? ⟨w3.heap.size, 0, none⟩ = some (.slice (some ⟨g, 0, none⟩) n c) ∧ W.cell? ⟨w6.heap.size, 0, none⟩ = some (.int .i64 c1) ∧ W.cell? ⟨w6.heap.size, 1, none⟩ = some (.slice rb rn rc))) (by kernel_rfl) ?hS20 (fun hHeld => ?_)
      case hS20 => exact ⟨D_0, q_0, q_1⟩
      refine wpAnyH_take (i := 0) (v := ?v0_21) rfl (by kernel_rfl) (by kernel_rfl) (by kernel_rfl) (fun _ _ _ h => h) (Or.inl ⟨by rfl, ?hy0_21⟩) (by assumption) ?rest0_21
      case hy0_21 => intro w hSw; (try dsimp only at hSw); go_simp; (try with_reducible rfl)
      try simp only [Act.put, lgA, lgB, lgC, lgD, lgE, lgF]
      refine wpAnyH_take (i := 1) (v := ?v1_22) rfl (by kernel_rfl) (by kernel_rfl) (by kernel_rfl) (fun _ _ _ h => h) (Or.inl ⟨by rfl, ?hy1_22⟩) (by assumption) ?rest1_22
      case hy1_22 => intro w hSw; (try dsimp only at hSw); go_simp; (try with_reducible rfl)
      try simp only [Act.put, lgA, lgB, lgC, lgD, lgE, lgF]
      obtain ⟨wA, hwA⟩ : ∃ W, W = w13.drew := ⟨_, rfl⟩
      have zA : Below w13.heap.size w13 wA := by rw [hwA]; exact hdr
      rw [← hwA]
      clear hwA
      have sA := zA.size
      have aC := HC.below' zA (by omega)
      have aT := turn_on' hb14 (zA.mono (by omega))
      have aD := od.below zA (by omega)
      have aQ := oq2.below zA (by omega)
      have aR_0 := bxc zA R_0
      have aR_f0 := bxf zA R_f0
      have aS_0 := bxc zA S_0
      have aS_f0 := bxf zA S_f0
      have aS_1 := bxc zA S_1
      have aS_f1 := bxf zA S_f1
      have aD_0 := bxc zA D_0
      have aQ_0 := bxc zA q_0
      have aQ_1 := bxc zA q_1
      refine wpAnyH_ready (rs := [2]) (by kernel_rfl) (by simp) ?_
      refine AllReadyH.cons rfl (fun K9 hK9 => ?_) AllReadyH.nil
      go_simp
      obtain ⟨wE, hwE⟩ : ∃ W, W = wA.setCell ⟨w.heap.size, 0, none⟩ (.slice (some ⟨g, 0, none⟩) n c) := ⟨_, rfl⟩
      rw [← hwE]
      have zE : Below w.heap.size wA wE := by rw [hwE]; exact Below.setCell (Below.refl _ _) (by simp only []; omega) _
      have sE : wE.heap.size = wA.heap.size := by rw [hwE]; simp [World.setCell]
      have eS_0 := cell_off hwE (by simp only []; omega) aS_0
      have eS_f0 := froz_off hwE (by simp only []; omega) aS_f0
      have eS_1 := cell_off hwE (by simp only []; omega) aS_1
      have eS_f1 := froz_off hwE (by simp only []; omega) aS_f1
      have eD_0 := cell_off hwE (by simp only []; omega) aD_0
      have eQ_0 := cell_off hwE (by simp only []; omega) aQ_0
      have eQ_1 := cell_off hwE (by simp only []; omega) aQ_1
      have eR_0 : wE.cell? ⟨w.heap.size, 0, none⟩ = some (.slice (some ⟨g, 0, none⟩) n c) := by rw [hwE]; simp [go_sem, aR_0]
      have eR_f0 : wE.frozen? ⟨w.heap.size, 0, none⟩ = false := by rw [hwE]; simp [go_sem, aR_f0]
      have eD := aD.off hwE (by simp only []; omega)
      have eQ := own_off aQ hwE (by simp only []; omega)
      have eC := aC.below' zE (by omega)
      have eT := turn_on' aT zE
      clear hwE
      refine hK9.out _ _ ⟨eD_0, eQ_0, eQ_1⟩ (fun hHeld => ?_)
      clear hK9 K9
      try simp only [Act.put, lgA, lgB, lgC, lgD, lgE, lgF]
      refine wpAnyH_ready (rs := [3]) (by kernel_rfl) (by simp) ?_
      refine AllReadyH.cons rfl (fun K9 hK9 => ?_) AllReadyH.nil
      go_simp
      obtain ⟨wM, hwM⟩ : ∃ W, W = wE.setCell ⟨w.heap.size + 1, 0, none⟩ (.int .i64 c1) := ⟨_, rfl⟩
      obtain ⟨wF, hwF⟩ : ∃ W, W = wM.setCell ⟨w.heap.size + 1, 1, none⟩ (.slice rb rn rc) := ⟨_, rfl⟩
      rw [← hwM, ← hwF]
      have zM : Below w.heap.size wE wM := by rw [hwM]; exact Below.setCell (Below.refl _ _) (by simp only []; omega) _
      have zF0 : Below w.heap.size wM wF := by rw [hwF]; exact Below.setCell (Below.refl _ _) (by simp only []; omega) _
      have zF : Below w.heap.size wE wF := zM.trans zF0
      have sF : wF.heap.size = wE.heap.size := by rw [hwF, hwM]; simp [World.setCell]
      have fR_0 := cell_off hwF (by simp only []; omega) (cell_off hwM (by simp only []; omega) eR_0)
      have fR_f0 := froz_off hwF (by simp only []; omega) (froz_off hwM (by simp only []; omega) eR_f0)
      have fD_0 := cell_off hwF (by simp only []; omega) (cell_off hwM (by simp only []; omega) eD_0)
      have fQ_0 := cell_off hwF (by simp only []; omega) (cell_off hwM (by simp only []; omega) eQ_0)
      have fQ_1 := cell_off hwF (by simp only []; omega) (cell_off hwM (by simp only []; omega) eQ_1)
      have fS_0 : wF.cell? ⟨w.heap.size + 1, 0, none⟩ = some (.int .i64 c1) := by rw [hwF, hwM]; simp [go_sem, eS_0, eS_1]
      have fS_1 : wF.cell? ⟨w.heap.size + 1, 1, none⟩ = some (.slice rb rn rc) := by rw [hwF, hwM]; simp [go_sem, eS_0, eS_1]
      have fS_f0 : wF.frozen? ⟨w.heap.size + 1, 0, none⟩ = false := by rw [hwF, hwM]; simp [go_sem, eS_f0, eS_f1]
      have fS_f1 : wF.frozen? ⟨w.heap.size + 1, 1, none⟩ = false := by rw [hwF, hwM]; simp [go_sem, eS_f0, eS_f1]
      have fD := (eD.off hwM (by simp only []; omega)).off hwF (by simp only []; omega)
      have fQ := own_off (own_off eQ hwM (by simp only []; omega)) hwF (by simp only []; omega)
      have fC := eC.below' zF (by omega)
      have fT := turn_on' eT zF
      clear hwF hwM
      refine hK9.out _ _ ⟨fD_0, fQ_0, fQ_1⟩ (fun hHeld => ?_)
      clear hK9 K9
      try simp only [Act.put, lgA, lgB, lgC, lgD, lgE, lgF]
      refine wpAnyH_done (by kernel_rfl) ?_ _
      refine NoPanic.normal ?_
      have fT9 := Lib.hid fT
      have fC9 := Lib.hid fC
      have fD9 := Lib.hid fD
      have fQ9 := Lib.hid fQ
      clear fT fC fD fQ aC aT aD aQ eC eT eD eQ
      go_wp2_with fail
      refine bodyPost_ret (v := .tuple #[.agg #[.slice (some ⟨g, 0, none⟩) n c], .agg #[.int .i64 c1, .slice rb rn rc]]) (by simp [results, Tryz.results23, go_sem, fR_0, fR_f0, fS_0, fS_1, fS_f0, fS_f1]) rfl ⟨_, _, _, _, _, _, _, _, _, rfl, fD9.out.mono (by omega) (by omega), fQ9.out.mono (by omega) (by omega), hy15, fC9.out, fT9.out⟩
  | false =>
    go_wp2_with fail
    go_wp2_with fail
    have HC_o := HC
    clear HC
    refine (l1Once_any _ cb ba bn bc 20 (by omega) HC_o).mono ?_
    rintro e w23 ⟨t2, rfl, HC, z23⟩
    clear HC_o
    have s24 := Nat.le_of_eq z23.size
    have s24' := Nat.le_of_eq z23.size.symm
    replace z23 := z23.turn
    have hb24 := hb10.trans z23
    replace R_0 := txc z23 R_0
    replace R_f0 := txf z23 R_f0
    replace S_0 := txc z23 S_0
    replace S_1 := txc z23 S_1
    replace S_f0 := txf z23 S_f0
    replace S_f1 := txf z23 S_f1
    replace od := od.turn z23 (by omega)
    replace D_0 := txc z23 D_0
    replace D_f0 := txf z23 D_f0
    replace oq := oq.turn z23 (by omega)
    replace Q_0 := txc z23 Q_0
    replace Q_1 := txc z23 Q_1
    replace Q_f0 := txf z23 Q_f0
    replace Q_f1 := txf z23 Q_f1
    cases t2 with
    | true =>
      obtain ⟨lo10, hlo10⟩ : ∃ q, q = w23.heap.size := ⟨_, rfl⟩
      go_wp2_with fail
      have HC_o := HC
      clear HC
      refine (l5Any_any _ cb ba bn bc HC_o (by omega)).mono ?_
      rintro e w25 ⟨eb, en, ec, db, rfl, od2, HC, z25⟩
      clear HC_o
      have s26 := z25.size
      have hb26 := hb24.trans z25
      replace R_0 := txc z25 R_0
      replace R_f0 := txf z25 R_f0
      replace S_0 := txc z25 S_0
      replace S_1 := txc z25 S_1
      replace S_f0 := txf z25 S_f0
      replace S_f1 := txf z25 S_f1
      replace od := od.turn z25 (by omega)
      replace D_0 := txc z25 D_0
      replace D_f0 := txf z25 D_f0
      replace oq := oq.turn z25 (by omega)
      replace Q_0 := txc z25 Q_0
      replace Q_1 := txc z25 Q_1
      replace Q_f0 := txf z25 Q_f0
      replace Q_f1 := txf z25 Q_f1
      rw [← hlo10] at od2
      obtain ⟨hi11, hhi11⟩ : ∃ q, q = w25.heap.size := ⟨_, rfl⟩
      rw [← hhi11] at od2
      have hlh4 : w6.heap.size + 1 ≤ lo10 ∧ lo10 ≤ hi11 := by omega
      go_wp2_with fail
      obtain ⟨wT, hwT⟩ : ∃ W, W = w25.setCell ⟨w3.heap.size, 0, none⟩ (.slice eb en ec) := ⟨_, rfl⟩
      rw [← hwT]
      have zT : Below (w3.heap.size) w25 wT := by rw [hwT]; exact Below.setCell (Below.refl _ _) (by simp only []; omega) _
      have sT : wT.heap.size = w25.heap.size := by rw [hwT]; simp [World.setCell]
      replace R_0 := bxc zT R_0
      replace R_f0 := bxf zT R_f0
      replace S_0 := bxc zT S_0
      replace S_f0 := bxf zT S_f0
      replace S_1 := bxc zT S_1
      replace S_f1 := bxf zT S_f1
      replace Q_0 := cell_off hwT (by simp only []; omega) Q_0
      replace Q_1 := cell_off hwT (by simp only []; omega) Q_1
      have d_0 : wT.cell? ⟨w3.heap.size, 0, none⟩ = some (.slice eb en ec) := by rw [hwT]; simp [go_sem, D_0]
      replace oq := own_off oq hwT (by simp only []; omega)
      replace od2 := od2.off hwT (by simp only []; omega)
      replace HC := HC.below' zT (by omega)
      have tT := turn_on' hb26 (zT.mono (by omega))
      have sT1 : w25.heap.size ≤ wT.heap.size := by omega
      clear hwT
      clear od D_0 D_f0 Q_f0 Q_f1
      go_wp2_with fail
      have hdr : Below wT.heap.size wT wT.drew := (Below.refl _ _).drew
      refine wp_region_noPanic ?_
      refine wp_region_held_drew (S := (fun W => W.cell? ⟨w3.heap.size, 0, none⟩ = some (.slice eb en ec) ∧ W.cell? ⟨w6.heap.size, 0, none⟩ = some (.int .i64 c0) ∧ W.cell? ⟨w6.heap.size, 1, none⟩ = some (.slice qb qn qc))) (by kernel_rfl) ?hS27 (fun hHeld => ?_)
      case hS27 => exact ⟨d_0, Q_0, Q_1⟩
      refine wpAnyH_take (i := 0) (v := ?v0_28) rfl (by kernel_rfl) (by kernel_rfl) (by kernel_rfl) (fun _ _ _ h => h) (Or.inl ⟨by rfl, ?hy0_28⟩) (by assumption) ?rest0_28
      case hy0_28 => intro w hSw; (try dsimp only at hSw); go_simp; (try with_reducible rfl)
      try simp only [Act.put, lgA, lgB, lgC, lgD, lgE, lgF]
      refine wpAnyH_take (i := 1) (v := ?v1_29) rfl (by kernel_rfl) (by kernel_rfl) (by kernel_rfl) (fun _ _ _ h => h) (Or.inl ⟨by rfl, ?hy1_29⟩) (by assumption) ?rest1_29
      case hy1_29 => intro w hSw; (try dsimp only at hSw); go_simp; (try with_reducible rfl)
      try simp only [Act.put, lgA, lgB, lgC, lgD, lgE, lgF]
      obtain ⟨wA, hwA⟩ : ∃ W, W = wT.drew := ⟨_, rfl⟩
      have zA : Below wT.heap.size wT wA := by rw [hwA]; exact hdr
      rw [← hwA]
      clear hwA
      have sA := zA.size
      have aC := HC.below' zA (by omega)
      have aT := turn_on' tT (zA.mono (by omega))
      have aD := od2.below zA (by omega)
      have aQ := oq.below zA (by omega)
      have aR_0 := bxc zA R_0
      have aR_f0 := bxf zA R_f0
      have aS_0 := bxc zA S_0
      have aS_f0 := bxf zA S_f0
      have aS_1 := bxc zA S_1
      have aS_f1 := bxf zA S_f1
      have aD_0 := bxc zA d_0
      have aQ_0 := bxc zA Q_0
      have aQ_1 := bxc zA Q_1
      refine wpAnyH_ready (rs := [2]) (by kernel_rfl) (by simp) ?_
      refine AllReadyH.cons rfl (fun K9 hK9 => ?_) AllReadyH.nil
      go_simp
      obtain ⟨wE, hwE⟩ : ∃ W, W = wA.setCell ⟨w.heap.size, 0, none⟩ (.slice eb en ec) := ⟨_, rfl⟩
      rw [← hwE]
      have zE : Below w.heap.size wA wE := by rw [hwE]; exact Below.setCell (Below.refl _ _) (by simp only []; omega) _
      have sE : wE.heap.size = wA.heap.size := by rw [hwE]; simp [World.setCell]
      have eS_0 := cell_off hwE (by simp only []; omega) aS_0
      have eS_f0 := froz_off hwE (by simp only []; omega) aS_f0
      have eS_1 := cell_off hwE (by simp only []; omega) aS_1
      have eS_f1 := froz_off hwE (by simp only []; omega) aS_f1
      have eD_0 := cell_off hwE (by simp only []; omega) aD_0
      have eQ_0 := cell_off hwE (by simp only []; omega) aQ_0
      have eQ_1 := cell_off hwE (by simp only []; omega) aQ_1
      have eR_0 : wE.cell? ⟨w.heap.size, 0, none⟩ = some (.slice eb en ec) := by rw [hwE]; simp [go_sem, aR_0]
      have eR_f0 : wE.frozen? ⟨w.heap.size, 0, none⟩ = false := by rw [hwE]; simp [go_sem, aR_f0]
      have eD := aD.off hwE (by simp only []; omega)
      have eQ := own_off aQ hwE (by simp only []; omega)
      have eC := aC.below' zE (by omega)
      have eT := turn_on' aT zE
      clear hwE
      refine hK9.out _ _ ⟨eD_0, eQ_0, eQ_1⟩ (fun hHeld => ?_)
      clear hK9 K9
      try simp only [Act.put, lgA, lgB, lgC, lgD, lgE, lgF]
      refine wpAnyH_ready (rs := [3]) (by kernel_rfl) (by simp) ?_
      refine AllReadyH.cons rfl (fun K9 hK9 => ?_) AllReadyH.nil
      go_simp
      obtain ⟨wM, hwM⟩ : ∃ W, W = wE.setCell ⟨w.heap.size + 1, 0, none⟩ (.int .i64 c0) := ⟨_, rfl⟩
      obtain ⟨wF, hwF⟩ : ∃ W, W = wM.setCell ⟨w.heap.size + 1, 1, none⟩ (.slice qb qn qc) := ⟨_, rfl⟩
      rw [← hwM, ← hwF]
      have zM : Below w.heap.size wE wM := by rw [hwM]; exact Below.setCell (Below.refl _ _) (by simp only []; omega) _
      have zF0 : Below w.heap.size wM wF := by rw [hwF]; exact Below.setCell (Below.refl _ _) (by simp only []; omega) _
      have zF : Below w.heap.size wE wF := zM.trans zF0
      have sF : wF.heap.size = wE.heap.size := by rw [hwF, hwM]; simp [World.setCell]
      have fR_0 := cell_off hwF (by simp only []; omega) (cell_off hwM (by simp only []; omega) eR_0)
      have fR_f0 := froz_off hwF (by simp only []; omega) (froz_off hwM (by simp only []; omega) eR_f0)
      have fD_0 := cell_off hwF (by simp only []; omega) (cell_off hwM (by simp only []; omega) eD_0)
      have fQ_0 := cell_off hwF (by simp only []; omega) (cell_off hwM (by simp only []; omega) eQ_0)
      have fQ_1 := cell_off hwF (by simp only []; omega) (cell_off hwM (by simp only []; omega) eQ_1)
      have fS_0 : wF.cell? ⟨w.heap.size + 1, 0, none⟩ = some (.int .i64 c0) := by rw [hwF, hwM]; simp [go_sem, eS_0, eS_1]
      have fS_1 : wF.cell? ⟨w.heap.size + 1, 1, none⟩ = some (.slice qb qn qc) := by rw [hwF, hwM]; simp [go_sem, eS_0, eS_1]
      have fS_f0 : wF.frozen? ⟨w.heap.size + 1, 0, none⟩ = false := by rw [hwF, hwM]; simp [go_sem, eS_f0, eS_f1]
      have fS_f1 : wF.frozen? ⟨w.heap.size + 1, 1, none⟩ = false := by rw [hwF, hwM]; simp [go_sem, eS_f0, eS_f1]
      have fD := (eD.off hwM (by simp only []; omega)).off hwF (by simp only []; omega)
      have fQ := own_off (own_off eQ hwM (by simp only []; omega)) hwF (by simp only []; omega)
      have fC := eC.below' zF (by omega)
      have fT := turn_on' eT zF
      clear hwF hwM
      refine hK9.out _ _ ⟨fD_0, fQ_0, fQ_1⟩ (fun hHeld => ?_)
      clear hK9 K9
      try simp only [Act.put, lgA, lgB, lgC, lgD, lgE, lgF]
      refine wpAnyH_done (by kernel_rfl) ?_ _
      refine NoPanic.normal ?_
      have fT9 := Lib.hid fT
      have fC9 := Lib.hid fC
      have fD9 := Lib.hid fD
      have fQ9 := Lib.hid fQ
      clear fT fC fD fQ aC aT aD aQ eC eT eD eQ
      go_wp2_with fail
      refine bodyPost_ret (v := .tuple #[.agg #[.slice eb en ec], .agg #[.int .i64 c0, .slice qb qn qc]]) (by simp [results, Tryz.results23, go_sem, fR_0, fR_f0, fS_0, fS_1, fS_f0, fS_f1]) rfl ⟨_, _, _, _, _, _, _, _, _, rfl, fD9.out.mono (by omega) (by omega), fQ9.out.mono (by omega) (by omega), hx15, fC9.out, fT9.out⟩
    | false =>
      go_wp2_with fail
      have hdr : Below w23.heap.size w23 w23.drew := (Below.refl _ _).drew
      refine wp_region_noPanic ?_
      refine wp_region_held_drew (S := (fun W => W.cell? ⟨w3.heap.size, 0, none⟩ = some (.slice (some ⟨g, 0, none⟩) n c) ∧ W.cell? ⟨w6.heap.size, 0, none⟩ = some (.int .i64 c0) ∧ W.cell? ⟨w6.heap.size, 1, none⟩ = some (.slice qb qn qc))) (by kernel_rfl) ?hS30 (fun hHeld => ?_)
      case hS30 => exact ⟨D_0, Q_0, Q_1⟩
      refine wpAnyH_take (i := 0) (v := ?v0_31) rfl (by kernel_rfl) (by kernel_rfl) (by kernel_rfl) (fun _ _ _ h => h) (Or.inl ⟨by rfl, ?hy0_31⟩) (by assumption) ?rest0_31
      case hy0_31 => intro w hSw; (try dsimp only at hSw); go_simp; (try with_reducible rfl)
      try simp only [Act.put, lgA, lgB, lgC, lgD, lgE, lgF]
      refine wpAnyH_take (i := 1) (v := ?v1_32) rfl (by kernel_rfl) (by kernel_rfl) (by kernel_rfl) (fun _ _ _ h => h) (Or.inl ⟨by rfl, ?hy1_32⟩) (by assumption) ?rest1_32
      case hy1_32 => intro w hSw; (try dsimp only at hSw); go_simp; (try with_reducible rfl)
      try simp only [Act.put, lgA, lgB, lgC, lgD, lgE, lgF]
      obtain ⟨wA, hwA⟩ : ∃ W, W = w23.drew := ⟨_, rfl⟩
      have zA : Below w23.heap.size w23 wA := by rw [hwA]; exact hdr
      rw [← hwA]
      clear hwA
      have sA := zA.size
      have aC := HC.below' zA (by omega)
      have aT := turn_on' hb24 (zA.mono (by omega))
      have aD := od.below zA (by omega)
      have aQ := oq.below zA (by omega)
      have aR_0 := bxc zA R_0
      have aR_f0 := bxf zA R_f0
      have aS_0 := bxc zA S_0
      have aS_f0 := bxf zA S_f0
      have aS_1 := bxc zA S_1
      have aS_f1 := bxf zA S_f1
      have aD_0 := bxc zA D_0
      have aQ_0 := bxc zA Q_0
      have aQ_1 := bxc zA Q_1
      refine wpAnyH_ready (rs := [2]) (by kernel_rfl) (by simp) ?_
      refine AllReadyH.cons rfl (fun K9 hK9 => ?_) AllReadyH.nil
      go_simp
      obtain ⟨wE, hwE⟩ : ∃ W, W = wA.setCell ⟨w.heap.size, 0, none⟩ (.slice (some ⟨g, 0, none⟩) n c) := ⟨_, rfl⟩
      rw [← hwE]
      have zE : Below w.heap.size wA wE := by rw [hwE]; exact Below.setCell (Below.refl _ _) (by simp only []; omega) _
      have sE : wE.heap.size = wA.heap.size := by rw [hwE]; simp [World.setCell]
      have eS_0 := cell_off hwE (by simp only []; omega) aS_0
      have eS_f0 := froz_off hwE (by simp only []; omega) aS_f0
      have eS_1 := cell_off hwE (by simp only []; omega) aS_1
      have eS_f1 := froz_off hwE (by simp only []; omega) aS_f1
      have eD_0 := cell_off hwE (by simp only []; omega) aD_0
      have eQ_0 := cell_off hwE (by simp only []; omega) aQ_0
      have eQ_1 := cell_off hwE (by simp only []; omega) aQ_1
      have eR_0 : wE.cell? ⟨w.heap.size, 0, none⟩ = some (.slice (some ⟨g, 0, none⟩) n c) := by rw [hwE]; simp [go_sem, aR_0]
      have eR_f0 : wE.frozen? ⟨w.heap.size, 0, none⟩ = false := by rw [hwE]; simp [go_sem, aR_f0]
      have eD := aD.off hwE (by simp only []; omega)
      have eQ := own_off aQ hwE (by simp only []; omega)
      have eC := aC.below' zE (by omega)
      have eT := turn_on' aT zE
      clear hwE
      refine hK9.out _ _ ⟨eD_0, eQ_0, eQ_1⟩ (fun hHeld => ?_)
      clear hK9 K9
      try simp only [Act.put, lgA, lgB, lgC, lgD, lgE, lgF]
      refine wpAnyH_ready (rs := [3]) (by kernel_rfl) (by simp) ?_
      refine AllReadyH.cons rfl (fun K9 hK9 => ?_) AllReadyH.nil
      go_simp
      obtain ⟨wM, hwM⟩ : ∃ W, W = wE.setCell ⟨w.heap.size + 1, 0, none⟩ (.int .i64 c0) := ⟨_, rfl⟩
      obtain ⟨wF, hwF⟩ : ∃ W, W = wM.setCell ⟨w.heap.size + 1, 1, none⟩ (.slice qb qn qc) := ⟨_, rfl⟩
      rw [← hwM, ← hwF]
      have zM : Below w.heap.size wE wM := by rw [hwM]; exact Below.setCell (Below.refl _ _) (by simp only []; omega) _
      have zF0 : Below w.heap.size wM wF := by rw [hwF]; exact Below.setCell (Below.refl _ _) (by simp only []; omega) _
      have zF : Below w.heap.size wE wF := zM.trans zF0
      have sF : wF.heap.size = wE.heap.size := by rw [hwF, hwM]; simp [World.setCell]
      have fR_0 := cell_off hwF (by simp only []; omega) (cell_off hwM (by simp only []; omega) eR_0)
      have fR_f0 := froz_off hwF (by simp only []; omega) (froz_off hwM (by simp only []; omega) eR_f0)
      have fD_0 := cell_off hwF (by simp only []; omega) (cell_off hwM (by simp only []; omega) eD_0)
      have fQ_0 := cell_off hwF (by simp only []; omega) (cell_off hwM (by simp only []; omega) eQ_0)
      have fQ_1 := cell_off hwF (by simp only []; omega) (cell_off hwM (by simp only []; omega) eQ_1)
      have fS_0 : wF.cell? ⟨w.heap.size + 1, 0, none⟩ = some (.int .i64 c0) := by rw [hwF, hwM]; simp [go_sem, eS_0, eS_1]
      have fS_1 : wF.cell? ⟨w.heap.size + 1, 1, none⟩ = some (.slice qb qn qc) := by rw [hwF, hwM]; simp [go_sem, eS_0, eS_1]
      have fS_f0 : wF.frozen? ⟨w.heap.size + 1, 0, none⟩ = false := by rw [hwF, hwM]; simp [go_sem, eS_f0, eS_f1]
      have fS_f1 : wF.frozen? ⟨w.heap.size + 1, 1, none⟩ = false := by rw [hwF, hwM]; simp [go_sem, eS_f0, eS_f1]
      have fD := (eD.off hwM (by simp only []; omega)).off hwF (by simp only []; omega)
      have fQ := own_off (own_off eQ hwM (by simp only []; omega)) hwF (by simp only []; omega)
      have fC := eC.below' zF (by omega)
      have fT := turn_on' eT zF
      clear hwF hwM
      refine hK9.out _ _ ⟨fD_0, fQ_0, fQ_1⟩ (fun hHeld => ?_)
      clear hK9 K9
      try simp only [Act.put, lgA, lgB, lgC, lgD, lgE, lgF]
      refine wpAnyH_done (by kernel_rfl) ?_ _
      refine NoPanic.normal ?_
      have fT9 := Lib.hid fT
      have fC9 := Lib.hid fC
      have fD9 := Lib.hid fD
      have fQ9 := Lib.hid fQ
      clear fT fC fD fQ aC aT aD aQ eC eT eD eQ
      go_wp2_with fail
      refine bodyPost_ret (v := .tuple #[.agg #[.slice (some ⟨g, 0, none⟩) n c], .agg #[.int .i64 c0, .slice qb qn qc]]) (by simp [results, Tryz.results23, go_sem, fR_0, fR_f0, fS_0, fS_1, fS_f0, fS_f1]) rfl ⟨_, _, _, _, _, _, _, _, _, rfl, fD9.out.mono (by omega) (by omega), fQ9.out.mono (by omega) (by omega), hx15, fC9.out, fT9.out⟩

end Go.Proofs.YtpgfkjcekhifiaaGreat

namespace Go.Proofs.YtpgfkjcekhifiaaGreat

open Go.RowKit

set_option linter.unusedVariables false

set_option linter.unusedSimpArgs false

set_option synthInstance.maxSize 2000

set_option synthInstance.maxHeartbeats 400000

set_option maxRecDepth 100000 in
set_option maxHeartbeats 8000000 in
theorem drawEval_any (w : World) (ba : Option Addr) (bn bc : Nat) (hn : bn ≤ 2000000) (h : Bytes w w.heap.size ba bn) :
    Calls Tryz.prog 5 #[.slice ba bn bc] w fun e w' => ∃ (b : Option Addr) (n c : Nat) (db : List DT) (c0 : Int) (qb : Option Addr) (qn qc : Nat) (x : DQ) (k : Int), e = .returned (.tuple #[.agg #[.slice b n c], .agg #[.int .i64 c0, .slice qb qn qc], .int .i64 k]) ∧ DrawnDb w.heap.size w'.heap.size w' b n c db ∧ Own oQ w.heap.size w'.heap.size w' [.int .i64 c0, .slice qb qn qc] x ∧ I64 k ∧ Below w.heap.size w w' := by
  have hb0 : Below w.heap.size w w := Below.refl _ _
  go_enter Tryz.func5, Tryz.ntmps5
  obtain ⟨w1, hw1⟩ : ∃ W, W = w.alloc (.cells #[.slice none 0 0] 26) := ⟨_, rfl⟩
  have z1 : Below w.heap.size w w1 := by rw [hw1]; exact (Below.refl _ _).alloc (Nat.le_refl _) _
  have s1 : w1.heap.size = w.heap.size + 1 := by rw [hw1]; simp
  have hb1 := on hb0 z1
  have R_0 : w1.cell? ⟨w.heap.size, 0, none⟩ = some (.slice none 0 0) := by rw [hw1]; exact box_cell (Below.refl _ _) rfl
  have R_f0 : w1.frozen? ⟨w.heap.size, 0, none⟩ = false := by rw [hw1]; exact box_frozen (Below.refl _ _)
  have raw1_R_0 := R_0
  have raw1_R_f0 := R_f0
  rw [hw1] at raw1_R_0 raw1_R_f0
  obtain ⟨w2, hw2⟩ : ∃ W, W = w1.alloc (.cells #[.int .i64 0, .slice none 0 0] 29) := ⟨_, rfl⟩
  have z2 : Below w1.heap.size w1 w2 := by rw [hw2]; exact (Below.refl _ _).alloc (Nat.le_refl _) _
  have s2 : w2.heap.size = w1.heap.size + 1 := by rw [hw2]; simp
  have hb2 := on hb1 z2
  replace R_0 := bxc z2 R_0
  replace R_f0 := bxf z2 R_f0
  have e2 : w1.heap.size = w.heap.size + 1 := by omega
  have S_0 : w2.cell? ⟨w1.heap.size, 0, none⟩ = some (.int .i64 0) := by rw [hw2]; exact box_cell (Below.refl _ _) rfl
  have S_1 : w2.cell? ⟨w1.heap.size, 1, none⟩ = some (.slice none 0 0) := by rw [hw2]; exact box_cell (Below.refl _ _) rfl
  rw [e2] at S_0 S_1
  have S_f0 : w2.frozen? ⟨w1.heap.size, 0, none⟩ = false := by rw [hw2]; exact box_frozen (Below.refl _ _)
  have S_f1 : w2.frozen? ⟨w1.heap.size, 1, none⟩ = false := by rw [hw2]; exact box_frozen (Below.refl _ _)
  rw [e2] at S_f0 S_f1
  have raw2_R_0 := R_0
  have raw2_R_f0 := R_f0
  have raw2_S_0 := S_0
  have raw2_S_1 := S_1
  have raw2_S_f0 := S_f0
  have raw2_S_f1 := S_f1
  rw [hw2, hw1] at raw2_R_0 raw2_R_f0 raw2_S_0 raw2_S_1 raw2_S_f0 raw2_S_f1
  have HBY := Lib.hid (h.at hb2)
  clear h
  go_wp2_with fail
  rw [← hw1]
  rw [← hw2]
  clear hw2 hw1
  clear raw1_R_0 raw1_R_f0 raw2_R_0 raw2_R_f0 raw2_S_0 raw2_S_1 raw2_S_f0 raw2_S_f1
  go_wp2_with fail
  refine (l1New_any _ ba bn bc hn HBY.out).mono ?_
  rintro e w3 ⟨cb, rfl, HC, z3, hcb1, hcb2⟩
  have s4 := z3.size
  have hb4 := on hb2 z3
  replace R_0 := bxc z3 R_0
  replace R_f0 := bxf z3 R_f0
  replace S_0 := bxc z3 S_0
  replace S_1 := bxc z3 S_1
  replace S_f0 := bxf z3 S_f0
  replace S_f1 := bxf z3 S_f1
  clear HBY
  go_wp2_with fail
  obtain ⟨lo4, hlo4⟩ : ∃ q, q = w3.heap.size := ⟨_, rfl⟩
  have HC_o := HC
  clear HC
  refine (l9Pair_any _ cb ba bn bc HC_o (by omega)).mono ?_
  rintro e w5 ⟨b, n, c, db, c0, qb, qn, qc, x, rfl, od, oq, hx15, HC, z5⟩
  clear HC_o
  have s6 := z5.size
  have hb6 := hb4.trans ((z5.below (by omega)).mono (by omega))
  replace R_0 := txc z5 R_0
  replace R_f0 := txf z5 R_f0
  replace S_0 := txc z5 S_0
  replace S_1 := txc z5 S_1
  replace S_f0 := txf z5 S_f0
  replace S_f1 := txf z5 S_f1
  rw [← hlo4] at od oq
  obtain ⟨hi5, hhi5⟩ : ∃ q, q = w5.heap.size := ⟨_, rfl⟩
  rw [← hhi5] at od oq
  have hlh : w.heap.size + 1 + 1 ≤ lo4 ∧ cb + 1 ≤ lo4 ∧ lo4 ≤ hi5 := by omega
  have hqn : qn = x.2.length := (oQ_open oq).2.2.2
  have hn1 : 1 ≤ qn := by omega
  have hn5 : qn ≤ 5 := by omega
  clear hqn hx15
  obtain ⟨w7, hw7⟩ : ∃ W, W = w5.alloc (.cells #[.slice b n c] 26) := ⟨_, rfl⟩
  have z7 : Below w5.heap.size w5 w7 := by rw [hw7]; exact (Below.refl _ _).alloc (Nat.le_refl _) _
  have s7 : w7.heap.size = w5.heap.size + 1 := by rw [hw7]; simp
  have hb7 := on hb6 z7
  have old7_R_0 := R_0
  have old7_S_0 := S_0
  have old7_S_1 := S_1
  replace R_0 := bxc z7 R_0
  replace R_f0 := bxf z7 R_f0
  replace S_0 := bxc z7 S_0
  replace S_1 := bxc z7 S_1
  replace S_f0 := bxf z7 S_f0
  replace S_f1 := bxf z7 S_f1
  replace HC := HC.below' z7 (by omega)
  replace od := od.below z7 (by omega)
  replace oq := oq.below z7 (by omega)
  have D_0 : w7.cell? ⟨w5.heap.size, 0, none⟩ = some (.slice b n c) := by rw [hw7]; exact box_cell (Below.refl _ _) rfl
  have raw7_R_0 := R_0
  have raw7_R_f0 := R_f0
  have raw7_S_0 := S_0
  have raw7_S_1 := S_1
  have raw7_S_f0 := S_f0
  have raw7_S_f1 := S_f1
  have raw7_D_0 := D_0
  rw [hw7] at raw7_R_0 raw7_R_f0 raw7_S_0 raw7_S_1 raw7_S_f0 raw7_S_f1 raw7_D_0
  obtain ⟨w8, hw8⟩ : ∃ W, W = w7.alloc (.cells #[.int .i64 c0, .slice qb qn qc] 29) := ⟨_, rfl⟩
  have z8 : Below w7.heap.size w7 w8 := by rw [hw8]; exact (Below.refl _ _).alloc (Nat.le_refl _) _
  have s8 : w8.heap.size = w7.heap.size + 1 := by rw [hw8]; simp
  have hb8 := on hb7 z8
  replace R_0 := bxc z8 R_0
  replace R_f0 := bxf z8 R_f0
  replace S_0 := bxc z8 S_0
  replace S_1 := bxc z8 S_1
  replace S_f0 := bxf z8 S_f0
  replace S_f1 := bxf z8 S_f1
  replace HC := HC.below' z8 (by omega)
  replace od := od.below z8 (by omega)
  replace oq := oq.below z8 (by omega)
  replace D_0 := bxc z8 D_0
  have e8 : w7.heap.size = w5.heap.size + 1 := by omega
  have Q_0 : w8.cell? ⟨w7.heap.size, 0, none⟩ = some (.int .i64 c0) := by rw [hw8]; exact box_cell (Below.refl _ _) rfl
  have Q_1 : w8.cell? ⟨w7.heap.size, 1, none⟩ = some (.slice qb qn qc) := by rw [hw8]; exact box_cell (Below.refl _ _) rfl
  rw [e8] at Q_0 Q_1
  have raw8_R_0 := R_0
  have raw8_R_f0 := R_f0
  have raw8_S_0 := S_0
  have raw8_S_1 := S_1
  have raw8_S_f0 := S_f0
  have raw8_S_f1 := S_f1
  have raw8_D_0 := D_0
  have raw8_Q_0 := Q_0
  have raw8_Q_1 := Q_1
  rw [hw8, hw7] at raw8_R_0 raw8_R_f0 raw8_S_0 raw8_S_1 raw8_S_f0 raw8_S_f1 raw8_D_0 raw8_Q_0 raw8_Q_1
  go_wp2_with fail
  rw [← hw7]
  rw [← hw8]
  clear hw8 hw7
  clear old7_R_0 old7_S_0 old7_S_1 raw7_R_0 raw7_R_f0 raw7_S_0 raw7_S_1 raw7_S_f0 raw7_S_f1 raw7_D_0 raw8_R_0 raw8_R_f0 raw8_S_0 raw8_S_1 raw8_S_f0 raw8_S_f1 raw8_D_0 raw8_Q_0 raw8_Q_1
  have hdr : Below w8.heap.size w8 w8.drew := (Below.refl _ _).drew
  refine wp_region_noPanic ?_
  refine wp_region_held_drew (S := (fun W => W.cell? ⟨w5.heap.size, 0, none⟩ = some (.slice b n c) ∧ W.cell? ⟨w5.heap.size + 1, 0, none⟩ = some (.int .i64 c0) ∧ W.cell? ⟨w5.heap.size + 1, 1, none⟩ = some (.slice qb qn qc))) (by kernel_rfl) ?hS9 (fun hHeld => ?_)
  case hS9 => exact ⟨D_0, Q_0, Q_1⟩
  refine wpAnyH_take (i := 0) (v := ?v0_10) rfl (by kernel_rfl) (by kernel_rfl) (by kernel_rfl) (fun _ _ _ h => h) (Or.inl ⟨by rfl, ?hy0_10⟩) (by assumption) ?rest0_10
  case hy0_10 => intro w hSw; (try dsimp only at hSw); go_simp; (try with_reducible rfl)
  try simp only [Act.put, lgA, lgB, lgC, lgD, lgE, lgF]
  refine wpAnyH_take (i := 1) (v := ?v1_11) rfl (by kernel_rfl) (by kernel_rfl) (by kernel_rfl) (fun _ _ _ h => h) (Or.inl ⟨by rfl, ?hy1_11⟩) (by assumption) ?rest1_11
  case hy1_11 => intro w hSw; (try dsimp only at hSw); go_simp; (try with_reducible rfl)
  try simp only [Act.put, lgA, lgB, lgC, lgD, lgE, lgF]
  refine wpAnyH_take (i := 2) (v := ?v2_12) rfl (by kernel_rfl) (by kernel_rfl) (by kernel_rfl) (fun _ _ _ h => h) (Or.inl ⟨by rfl, ?hy2_12⟩) (by assumption) ?rest2_12
  case hy2_12 => intro w hSw; (try dsimp only at hSw); go_simp; (try with_reducible rfl)
  try simp only [Act.put, lgA, lgB, lgC, lgD, lgE, lgF]
  refine wpAnyH_take (i := 3) (v := ?v3_13) rfl (by kernel_rfl) (by kernel_rfl) (by kernel_rfl) (fun _ _ _ h => h) (Or.inl ⟨by rfl, ?hy3_13⟩) (by assumption) ?rest3_13
  case hy3_13 => intro w hSw; (try dsimp only at hSw); go_simp; (try with_reducible rfl)
  try simp only [Act.put, lgA, lgB, lgC, lgD, lgE, lgF]
  refine wpAnyH_ready (rs := [4]) (by kernel_rfl) (by simp) ?_
  refine AllReadyH.cons rfl (fun K9 hK9 => ?_) AllReadyH.nil
  go_simp
  refine (l8Mask_any3 _ cb ba bn bc c0 qb qn qc hn1 hn5 (HC.below' hdr (by omega)) (show cb < w8.heap.size by omega)).mono ?_
  rintro e wA ⟨k, rfl, hk64, HC2, tA0⟩
  have tA : Turn cb (cb + 1) w8 wA := (turn_below hdr (Nat.le_refl _)).trans tA0
  clear HC2 tA0
  have sA := tA.size
  have hbA : Below w.heap.size w wA := hb8.trans ((tA.below (by omega)).mono (by omega))
  have aD := od.turn tA (by omega)
  have aQ := oq.turn tA (by omega)
  have aR_0 := txc tA R_0
  have aR_f0 := txf tA R_f0
  have aS_0 := txc tA S_0
  have aS_f0 := txf tA S_f0
  have aS_1 := txc tA S_1
  have aS_f1 := txf tA S_f1
  have aD_0 := txc tA D_0
  have aQ_0 := txc tA Q_0
  have aQ_1 := txc tA Q_1
  clear od oq HC tA hdr R_0 R_f0 S_0 S_1 S_f0 S_f1 D_0 Q_0 Q_1
  refine hK9.out _ _ ⟨aD_0, aQ_0, aQ_1⟩ (fun hHeld => ?_)
  clear hK9 K9
  try simp only [Act.put, lgA, lgB, lgC, lgD, lgE, lgF]
  refine wpAnyH_ready (rs := [5]) (by kernel_rfl) (by simp) ?_
  refine AllReadyH.cons rfl (fun K9 hK9 => ?_) AllReadyH.nil
  go_simp
  obtain ⟨wE, hwE⟩ : ∃ W, W = wA.setCell ⟨w.heap.size, 0, none⟩ (.slice b n c) := ⟨_, rfl⟩
  rw [← hwE]
  have zE : Below w.heap.size wA wE := by rw [hwE]; exact Below.setCell (Below.refl _ _) (by simp only []; omega) _
  have sE : wE.heap.size = wA.heap.size := by rw [hwE]; simp [World.setCell]
  have eS_0 := cell_off hwE (by simp only []; omega) aS_0
  have eS_f0 := froz_off hwE (by simp only []; omega) aS_f0
  have eS_1 := cell_off hwE (by simp only []; omega) aS_1
  have eS_f1 := froz_off hwE (by simp only []; omega) aS_f1
  have eD_0 := cell_off hwE (by simp only []; omega) aD_0
  have eQ_0 := cell_off hwE (by simp only []; omega) aQ_0
  have eQ_1 := cell_off hwE (by simp only []; omega) aQ_1
  have eR_0 : wE.cell? ⟨w.heap.size, 0, none⟩ = some (.slice b n c) := by rw [hwE]; simp [go_sem, aR_0]
  have eR_f0 : wE.frozen? ⟨w.heap.size, 0, none⟩ = false := by rw [hwE]; simp [go_sem, aR_f0]
  have eD := aD.off hwE (by simp only []; omega)
  have eQ := own_off aQ hwE (by simp only []; omega)
  have hbE := hbA.trans zE
  clear hwE aD aQ aR_0 aR_f0 aS_0 aS_1 aS_f0 aS_f1 aD_0 aQ_0 aQ_1
  refine hK9.out _ _ ⟨eD_0, eQ_0, eQ_1⟩ (fun hHeld => ?_)
  clear hK9 K9
  try simp only [Act.put, lgA, lgB, lgC, lgD, lgE, lgF]
  refine wpAnyH_ready (rs := [6]) (by kernel_rfl) (by simp) ?_
  refine AllReadyH.cons rfl (fun K9 hK9 => ?_) AllReadyH.nil
  go_simp
  obtain ⟨wM, hwM⟩ : ∃ W, W = wE.setCell ⟨w.heap.size + 1, 0, none⟩ (.int .i64 c0) := ⟨_, rfl⟩
  obtain ⟨wF, hwF⟩ : ∃ W, W = wM.setCell ⟨w.heap.size + 1, 1, none⟩ (.slice qb qn qc) := ⟨_, rfl⟩
  rw [← hwM, ← hwF]
  have zM : Below w.heap.size wE wM := by rw [hwM]; exact Below.setCell (Below.refl _ _) (by simp only []; omega) _
  have zF : Below w.heap.size wM wF := by rw [hwF]; exact Below.setCell (Below.refl _ _) (by simp only []; omega) _
  have sF : wF.heap.size = wE.heap.size := by rw [hwF, hwM]; simp [World.setCell]
  have fR_0 := cell_off hwF (by simp only []; omega) (cell_off hwM (by simp only []; omega) eR_0)
  have fR_f0 := froz_off hwF (by simp only []; omega) (froz_off hwM (by simp only []; omega) eR_f0)
  have fD_0 := cell_off hwF (by simp only []; omega) (cell_off hwM (by simp only []; omega) eD_0)
  have fQ_0 := cell_off hwF (by simp only []; omega) (cell_off hwM (by simp only []; omega) eQ_0)
  have fQ_1 := cell_off hwF (by simp only []; omega) (cell_off hwM (by simp only []; omega) eQ_1)
  have fS_0 : wF.cell? ⟨w.heap.size + 1, 0, none⟩ = some (.int .i64 c0) := by rw [hwF, hwM]; simp [go_sem, eS_0, eS_1]
  have fS_1 : wF.cell? ⟨w.heap.size + 1, 1, none⟩ = some (.slice qb qn qc) := by rw [hwF, hwM]; simp [go_sem, eS_0, eS_1]
  have fS_f0 : wF.frozen? ⟨w.heap.size + 1, 0, none⟩ = false := by rw [hwF, hwM]; simp [go_sem, eS_f0, eS_f1]
  have fS_f1 : wF.frozen? ⟨w.heap.size + 1, 1, none⟩ = false := by rw [hwF, hwM]; simp [go_sem, eS_f0, eS_f1]
  have fD9 := Lib.hid ((eD.off hwM (by simp only []; omega)).off hwF (by simp only []; omega))
  have fQ9 := Lib.hid (own_off (own_off eQ hwM (by simp only []; omega)) hwF (by simp only []; omega))
  have hbF := (hbE.trans zM).trans zF
  clear hwF hwM eD eQ eR_0 eR_f0 eS_0 eS_1 eS_f0 eS_f1 eD_0 eQ_0 eQ_1
  refine hK9.out _ _ ⟨fD_0, fQ_0, fQ_1⟩ (fun hHeld => ?_)
  clear hK9 K9
  try simp only [Act.put, lgA, lgB, lgC, lgD, lgE, lgF]
  refine wpAnyH_take (i := 7) (v := ?v7_14) rfl (by kernel_rfl) (by kernel_rfl) (by kernel_rfl) (fun _ _ _ h => h) (Or.inl ⟨by rfl, ?hy7_14⟩) (by assumption) ?rest7_14
  case hy7_14 => intro w hSw; (try dsimp only at hSw); go_simp; (try with_reducible rfl)
  try simp only [Act.put, lgA, lgB, lgC, lgD, lgE, lgF]
  refine wpAnyH_done (by kernel_rfl) ?_ _
  refine NoPanic.normal ?_
  go_wp2_with fail
  refine bodyPost_ret (v := .tuple #[.agg #[.slice b n c], .agg #[.int .i64 c0, .slice qb qn qc], .int .i64 k]) (by simp [results, Tryz.results5, go_sem, fR_0, fR_f0, fS_0, fS_1, fS_f0, fS_f1]) rfl ⟨_, _, _, _, _, _, _, _, _, _, rfl, fD9.out.mono (by omega) (by omega), fQ9.out.mono (by omega) (by omega), hk64, hbF⟩

end Go.Proofs.YtpgfkjcekhifiaaGreat
