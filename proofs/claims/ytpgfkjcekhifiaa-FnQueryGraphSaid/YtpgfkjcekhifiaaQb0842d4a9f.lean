/- Texts joined for one claim: Draw14, LQGraph. -/
import Derived.Test.YtpgfkjcekhifiaaQd35f44edef
import Derived.Test.YtpgfkjcekhifiaaQ2a0da68d80
import Derived.Test.YtpgfkjcekhifiaaQc5e9480c90
import Derived.Test.YtpgfkjcekhifiaaQbd9fa34d1b
import Derived.Test.YtpgfkjcekhifiaaQ96170c2f16
import Derived.Test.YtpgfkjcekhifiaaQd57dbfe807
import Derived.Test.YtpgfkjcekhifiaaQ983c2190ad
import Derived.Deep.RegionHeld3

/- Contracts: the reference's draws (14): a query and a mask. -/
namespace Go.Proofs.Ytpgfkjcekhifiaa
open Go.RowKit
set_option linter.unusedVariables false
set_option linter.unusedSimpArgs false
set_option synthInstance.maxSize 2000
set_option synthInstance.maxHeartbeats 400000

set_option maxRecDepth 100000 in
set_option maxHeartbeats 4000000 in
theorem l8Mask_any (w : World) (cb : Nat) (ba : Option Addr) (bn bc : Nat) (c0 : Int) (b : Option Addr) (n c : Nat) (hn1 : 1 ≤ n) (hn5 : n ≤ 5) (HC : Cur w cb ba bn bc) (hcb : cb < w.heap.size) :
    Calls Try.prog 36 #[.pointer (some ⟨cb, 0, none⟩), .agg #[.int .i64 c0, .slice b n c]] w fun e w' => ∃ k : Int, e = .returned (.int .i64 k) ∧ Cur w' cb ba bn bc ∧ Turn cb (cb + 1) w w' := by
  have ht0 : Turn cb (cb + 1) w w := (Kept.refl cb (cb + 1) w).turn
  go_enter Try.func36, Try.ntmps36
  obtain ⟨w1, hw1⟩ : ∃ W, W = w.alloc (.cells #[.int .i64 c0, .slice b n c] 26) := ⟨_, rfl⟩
  have z1 : Below w.heap.size w w1 := by rw [hw1]; exact (Below.refl _ _).alloc (Nat.le_refl _) _
  have s1 : w1.heap.size = w.heap.size + 1 := by rw [hw1]; simp
  have hb1 := turn_on' ht0 (z1.mono (by omega))
  replace HC := HC.below' z1 (by omega)
  have Q_0 : w1.cell? ⟨w.heap.size, 0, none⟩ = some (.int .i64 c0) := by rw [hw1]; exact box_cell (Below.refl _ _) rfl
  have Q_1 : w1.cell? ⟨w.heap.size, 1, none⟩ = some (.slice b n c) := by rw [hw1]; exact box_cell (Below.refl _ _) rfl
  have raw1_Q_0 := Q_0
  have raw1_Q_1 := Q_1
  rw [hw1] at raw1_Q_0 raw1_Q_1
  go_wp2_with fail
  rw [← hw1]
  clear hw1
  clear raw1_Q_0 raw1_Q_1
  go_wp2_with fail
  have HC_o := HC
  clear HC
  refine (l1Once_any _ cb ba bn bc 10 (by omega) HC_o).mono ?_
  rintro e w2 ⟨t, rfl, HC, z2⟩
  clear HC_o
  have s3 := Nat.le_of_eq z2.size
  have s3' := Nat.le_of_eq z2.size.symm
  replace z2 := z2.turn
  have hb3 := hb1.trans z2
  replace Q_0 := (z2.cell (p := ⟨w.heap.size, 0, none⟩) (by simp only []; omega) (by simp only []; omega)).trans Q_0
  replace Q_1 := (z2.cell (p := ⟨w.heap.size, 1, none⟩) (by simp only []; omega) (by simp only []; omega)).trans Q_1
  cases t with
  | true =>
    have h4 := ints_lit w2 [-1, 0, 16, 9223372036854775807] (i64_lits (by decide)) (by simp)
    obtain ⟨w4, hw4⟩ : ∃ W, W = w2.alloc (.cells #[.int .i64 (-1), .int .i64 0, .int .i64 16, .int .i64 9223372036854775807] 3) := ⟨_, rfl⟩
    have z4 : Below w2.heap.size w2 w4 := by rw [hw4]; exact (Below.refl _ _).alloc (Nat.le_refl _) _
    have s4 : w4.heap.size = w2.heap.size + 1 := by rw [hw4]; simp
    have hb4 := turn_on' hb3 (z4.mono (by omega))
    have old4_Q_0 := Q_0
    have old4_Q_1 := Q_1
    replace HC := HC.below' z4 (by omega)
    replace Q_0 := (z4.cell (p := ⟨w.heap.size, 0, none⟩) (by simp only []; omega)).trans Q_0
    replace Q_1 := (z4.cell (p := ⟨w.heap.size, 1, none⟩) (by simp only []; omega)).trans Q_1
    have P_0 : w4.cell? ⟨w2.heap.size, 0, none⟩ = some (.int .i64 (-1)) := by rw [hw4]; exact box_cell (Below.refl _ _) rfl
    have P_1 : w4.cell? ⟨w2.heap.size, 1, none⟩ = some (.int .i64 0) := by rw [hw4]; exact box_cell (Below.refl _ _) rfl
    have P_2 : w4.cell? ⟨w2.heap.size, 2, none⟩ = some (.int .i64 16) := by rw [hw4]; exact box_cell (Below.refl _ _) rfl
    have P_3 : w4.cell? ⟨w2.heap.size, 3, none⟩ = some (.int .i64 9223372036854775807) := by rw [hw4]; exact box_cell (Below.refl _ _) rfl
    have raw4_Q_0 := Q_0
    have raw4_Q_1 := Q_1
    have raw4_P_0 := P_0
    have raw4_P_1 := P_1
    have raw4_P_2 := P_2
    have raw4_P_3 := P_3
    rw [hw4] at raw4_Q_0 raw4_Q_1 raw4_P_0 raw4_P_1 raw4_P_2 raw4_P_3
    replace h4 : Ints w4 (some ⟨w2.heap.size, 0, none⟩) 4 [-1, 0, 16, 9223372036854775807] := by rw [hw4]; exact h4
    clear P_0 P_1 P_2 P_3
    go_wp2_with fail
    rw [← hw4]
    clear hw4
    clear old4_Q_0 old4_Q_1 raw4_Q_0 raw4_Q_1 raw4_P_0 raw4_P_1 raw4_P_2 raw4_P_3
    have HC_o := HC
    clear HC
    refine (l1PickInt_any _ cb ba bn bc _ 4 4 _ (by omega) (by omega) h4 (by omega) HC_o).mono ?_
    rintro e w5 ⟨y, rfl, hy, HC, z5⟩
    clear HC_o
    have s6 := Nat.le_of_eq z5.size
    have s6' := Nat.le_of_eq z5.size.symm
    replace z5 := z5.turn
    have hb6 := hb4.trans z5
    replace Q_0 := (z5.cell (p := ⟨w.heap.size, 0, none⟩) (by simp only []; omega) (by simp only []; omega)).trans Q_0
    replace Q_1 := (z5.cell (p := ⟨w.heap.size, 1, none⟩) (by simp only []; omega) (by simp only []; omega)).trans Q_1
    clear h4 hy
    go_wp2_with fail
    go_ret
    exact ⟨y, rfl, HC, hb6⟩
  | false =>
    rcases (by omega : n = 1 ∨ n = 2 ∨ n = 3 ∨ n = 4 ∨ n = 5) with rfl | rfl | rfl | rfl | rfl
    · skip
      clear hn1 hn5
      go_wp2_with fail
      try rw [show wrap64 ((2 : Int) ^ (min (4 : Int) 1).toNat) = 2 from by decide +kernel]
      have HC_o := HC
      clear HC
      refine (l1Below_any _ cb ba bn bc 2 (by omega) HC_o).mono ?_
      rintro e w7 ⟨k, rfl, hk0, hk1, hk2, HC, z7⟩
      clear HC_o
      have s8 := Nat.le_of_eq z7.size
      have s8' := Nat.le_of_eq z7.size.symm
      replace z7 := z7.turn
      have hb8 := hb3.trans z7
      replace Q_0 := (z7.cell (p := ⟨w.heap.size, 0, none⟩) (by simp only []; omega) (by simp only []; omega)).trans Q_0
      replace Q_1 := (z7.cell (p := ⟨w.heap.size, 1, none⟩) (by simp only []; omega) (by simp only []; omega)).trans Q_1
      clear hk0 hk1 hk2
      go_wp2_with fail
      go_ret
      exact ⟨k, rfl, HC, hb8⟩
    · skip
      clear hn1 hn5
      go_wp2_with fail
      try rw [show wrap64 ((2 : Int) ^ (min (4 : Int) 2).toNat) = 4 from by decide +kernel]
      have HC_o := HC
      clear HC
      refine (l1Below_any _ cb ba bn bc 4 (by omega) HC_o).mono ?_
      rintro e w9 ⟨k, rfl, hk0, hk1, hk2, HC, z9⟩
      clear HC_o
      have s10 := Nat.le_of_eq z9.size
      have s10' := Nat.le_of_eq z9.size.symm
      replace z9 := z9.turn
      have hb10 := hb3.trans z9
      replace Q_0 := (z9.cell (p := ⟨w.heap.size, 0, none⟩) (by simp only []; omega) (by simp only []; omega)).trans Q_0
      replace Q_1 := (z9.cell (p := ⟨w.heap.size, 1, none⟩) (by simp only []; omega) (by simp only []; omega)).trans Q_1
      clear hk0 hk1 hk2
      go_wp2_with fail
      go_ret
      exact ⟨k, rfl, HC, hb10⟩
    · skip
      clear hn1 hn5
      go_wp2_with fail
      try rw [show wrap64 ((2 : Int) ^ (min (4 : Int) 3).toNat) = 8 from by decide +kernel]
      have HC_o := HC
      clear HC
      refine (l1Below_any _ cb ba bn bc 8 (by omega) HC_o).mono ?_
      rintro e w11 ⟨k, rfl, hk0, hk1, hk2, HC, z11⟩
      clear HC_o
      have s12 := Nat.le_of_eq z11.size
      have s12' := Nat.le_of_eq z11.size.symm
      replace z11 := z11.turn
      have hb12 := hb3.trans z11
      replace Q_0 := (z11.cell (p := ⟨w.heap.size, 0, none⟩) (by simp only []; omega) (by simp only []; omega)).trans Q_0
      replace Q_1 := (z11.cell (p := ⟨w.heap.size, 1, none⟩) (by simp only []; omega) (by simp only []; omega)).trans Q_1
      clear hk0 hk1 hk2
      go_wp2_with fail
      go_ret
      exact ⟨k, rfl, HC, hb12⟩
    · skip
      clear hn1 hn5
      go_wp2_with fail
      try rw [show wrap64 ((2 : Int) ^ (min (4 : Int) 4).toNat) = 16 from by decide +kernel]
      have HC_o := HC
      clear HC
      refine (l1Below_any _ cb ba bn bc 16 (by omega) HC_o).mono ?_
      rintro e w13 ⟨k, rfl, hk0, hk1, hk2, HC, z13⟩
      clear HC_o
      have s14 := Nat.le_of_eq z13.size
      have s14' := Nat.le_of_eq z13.size.symm
      replace z13 := z13.turn
      have hb14 := hb3.trans z13
      replace Q_0 := (z13.cell (p := ⟨w.heap.size, 0, none⟩) (by simp only []; omega) (by simp only []; omega)).trans Q_0
      replace Q_1 := (z13.cell (p := ⟨w.heap.size, 1, none⟩) (by simp only []; omega) (by simp only []; omega)).trans Q_1
      clear hk0 hk1 hk2
      go_wp2_with fail
      go_ret
      exact ⟨k, rfl, HC, hb14⟩
    · skip
      clear hn1 hn5
      go_wp2_with fail
      try rw [show wrap64 ((2 : Int) ^ (min (4 : Int) 5).toNat) = 16 from by decide +kernel]
      have HC_o := HC
      clear HC
      refine (l1Below_any _ cb ba bn bc 16 (by omega) HC_o).mono ?_
      rintro e w15 ⟨k, rfl, hk0, hk1, hk2, HC, z15⟩
      clear HC_o
      have s16 := Nat.le_of_eq z15.size
      have s16' := Nat.le_of_eq z15.size.symm
      replace z15 := z15.turn
      have hb16 := hb3.trans z15
      replace Q_0 := (z15.cell (p := ⟨w.heap.size, 0, none⟩) (by simp only []; omega) (by simp only []; omega)).trans Q_0
      replace Q_1 := (z15.cell (p := ⟨w.heap.size, 1, none⟩) (by simp only []; omega) (by simp only []; omega)).trans Q_1
      clear hk0 hk1 hk2
      go_wp2_with fail
      go_ret
      exact ⟨k, rfl, HC, hb16⟩

set_option maxRecDepth 100000 in
set_option maxHeartbeats 4000000 in
theorem l8Both_any (w : World) (ba : Option Addr) (bn bc : Nat) (hn : bn ≤ 2000000) (h : Bytes w w.heap.size ba bn) :
    Calls Try.prog 21 #[.slice ba bn bc] w fun e w' => ∃ (c0 : Int) (b : Option Addr) (n c : Nat) (x : DQ) (k : Int), e = .returned (.tuple #[.agg #[.int .i64 c0, .slice b n c], .int .i64 k]) ∧ Own oQ w.heap.size w'.heap.size w' [.int .i64 c0, .slice b n c] x ∧ (1 ≤ x.2.length ∧ x.2.length ≤ 5) ∧ Below w.heap.size w w' := by
  have hb0 : Below w.heap.size w w := Below.refl _ _
  go_enter Try.func21, Try.ntmps21
  obtain ⟨w1, hw1⟩ : ∃ W, W = w.alloc (.cells #[.int .i64 0, .slice none 0 0] 26) := ⟨_, rfl⟩
  have z1 : Below w.heap.size w w1 := by rw [hw1]; exact (Below.refl _ _).alloc (Nat.le_refl _) _
  have s1 : w1.heap.size = w.heap.size + 1 := by rw [hw1]; simp
  have hb1 := on hb0 z1
  have R_0 : w1.cell? ⟨w.heap.size, 0, none⟩ = some (.int .i64 0) := by rw [hw1]; exact box_cell (Below.refl _ _) rfl
  have R_1 : w1.cell? ⟨w.heap.size, 1, none⟩ = some (.slice none 0 0) := by rw [hw1]; exact box_cell (Below.refl _ _) rfl
  have R_f0 : w1.frozen? ⟨w.heap.size, 0, none⟩ = false := by rw [hw1]; exact box_frozen (Below.refl _ _)
  have R_f1 : w1.frozen? ⟨w.heap.size, 1, none⟩ = false := by rw [hw1]; exact box_frozen (Below.refl _ _)
  have raw1_R_0 := R_0
  have raw1_R_1 := R_1
  have raw1_R_f0 := R_f0
  have raw1_R_f1 := R_f1
  rw [hw1] at raw1_R_0 raw1_R_1 raw1_R_f0 raw1_R_f1
  have HBY := Lib.hid (h.at hb1)
  clear h
  go_wp2_with fail
  rw [← hw1]
  clear hw1
  clear raw1_R_0 raw1_R_1 raw1_R_f0 raw1_R_f1
  go_wp2_with fail
  refine (l1New_any _ ba bn bc hn HBY.out).mono ?_
  rintro e w2 ⟨cb, rfl, HC, z2, hcb1, hcb2⟩
  have s3 := z2.size
  have hb3 := on hb1 z2
  replace R_0 := (z2.cell (p := ⟨w.heap.size, 0, none⟩) (by simp only []; omega)).trans R_0
  replace R_1 := (z2.cell (p := ⟨w.heap.size, 1, none⟩) (by simp only []; omega)).trans R_1
  replace R_f0 := (z2.frozen (p := ⟨w.heap.size, 0, none⟩) (by simp only []; omega)).trans R_f0
  replace R_f1 := (z2.frozen (p := ⟨w.heap.size, 1, none⟩) (by simp only []; omega)).trans R_f1
  clear HBY
  go_wp2_with fail
  obtain ⟨lo4, hlo4⟩ : ∃ q, q = w2.heap.size := ⟨_, rfl⟩
  have HC_o := HC
  clear HC
  refine (l7Any_any _ cb ba bn bc HC_o (by omega)).mono ?_
  rintro e w4 ⟨c0, b, n, c, x, rfl, oq, hx15, HC, z4⟩
  clear HC_o
  have s5 := z4.size
  have hb5 := hb3.trans ((z4.below (by omega)).mono (by omega))
  replace R_0 := (z4.cell (p := ⟨w.heap.size, 0, none⟩) (by simp only []; omega) (by simp only []; omega)).trans R_0
  replace R_1 := (z4.cell (p := ⟨w.heap.size, 1, none⟩) (by simp only []; omega) (by simp only []; omega)).trans R_1
  replace R_f0 := (World.frozen?_of_block (a := ⟨w.heap.size, 0, none⟩) (z4.block _ (by simp only []; omega) (by simp only []; omega))).trans R_f0
  replace R_f1 := (World.frozen?_of_block (a := ⟨w.heap.size, 1, none⟩) (z4.block _ (by simp only []; omega) (by simp only []; omega))).trans R_f1
  rw [← hlo4] at oq
  obtain ⟨hi5, hhi5⟩ : ∃ q, q = w4.heap.size := ⟨_, rfl⟩
  rw [← hhi5] at oq
  have hlh : w.heap.size + 1 ≤ lo4 ∧ cb + 1 ≤ lo4 := by omega
  have hlh2 : lo4 ≤ hi5 := by omega
  have hnx : n = x.2.length := (oQ_open oq).2.2.2
  have hn1 : 1 ≤ n := by omega
  have hn5 : n ≤ 5 := by omega
  clear hnx
  obtain ⟨w6, hw6⟩ : ∃ W, W = w4.alloc (.cells #[.int .i64 c0, .slice b n c] 26) := ⟨_, rfl⟩
  have z6 : Below w4.heap.size w4 w6 := by rw [hw6]; exact (Below.refl _ _).alloc (Nat.le_refl _) _
  have s6 : w6.heap.size = w4.heap.size + 1 := by rw [hw6]; simp
  have hb6 := on hb5 z6
  have old6_R_0 := R_0
  have old6_R_1 := R_1
  replace R_0 := (z6.cell (p := ⟨w.heap.size, 0, none⟩) (by simp only []; omega)).trans R_0
  replace R_1 := (z6.cell (p := ⟨w.heap.size, 1, none⟩) (by simp only []; omega)).trans R_1
  replace R_f0 := (z6.frozen (p := ⟨w.heap.size, 0, none⟩) (by simp only []; omega)).trans R_f0
  replace R_f1 := (z6.frozen (p := ⟨w.heap.size, 1, none⟩) (by simp only []; omega)).trans R_f1
  replace HC := HC.below' z6 (by omega)
  replace oq := oq.below z6 (by omega)
  have X_0 : w6.cell? ⟨w4.heap.size, 0, none⟩ = some (.int .i64 c0) := by rw [hw6]; exact box_cell (Below.refl _ _) rfl
  have X_1 : w6.cell? ⟨w4.heap.size, 1, none⟩ = some (.slice b n c) := by rw [hw6]; exact box_cell (Below.refl _ _) rfl
  have raw6_R_0 := R_0
  have raw6_R_1 := R_1
  have raw6_R_f0 := R_f0
  have raw6_R_f1 := R_f1
  have raw6_X_0 := X_0
  have raw6_X_1 := X_1
  rw [hw6] at raw6_R_0 raw6_R_1 raw6_R_f0 raw6_R_f1 raw6_X_0 raw6_X_1
  go_wp2_with fail
  rw [← hw6]
  clear hw6
  clear old6_R_0 old6_R_1 raw6_R_0 raw6_R_1 raw6_R_f0 raw6_R_f1 raw6_X_0 raw6_X_1
  go_wp2_with fail
  have HC_o := HC
  clear HC
  refine (l1Once_any _ cb ba bn bc 3 (by omega) HC_o).mono ?_
  rintro e w7 ⟨t, rfl, HC, z7⟩
  clear HC_o
  have s8 := Nat.le_of_eq z7.size
  have s8' := Nat.le_of_eq z7.size.symm
  replace z7 := z7.turn
  have hb8 := hb6.trans ((z7.below (by omega)).mono (by omega))
  replace R_0 := (z7.cell (p := ⟨w.heap.size, 0, none⟩) (by simp only []; omega) (by simp only []; omega)).trans R_0
  replace R_1 := (z7.cell (p := ⟨w.heap.size, 1, none⟩) (by simp only []; omega) (by simp only []; omega)).trans R_1
  replace R_f0 := (World.frozen?_of_block (a := ⟨w.heap.size, 0, none⟩) (z7.block _ (by simp only []; omega) (by simp only []; omega))).trans R_f0
  replace R_f1 := (World.frozen?_of_block (a := ⟨w.heap.size, 1, none⟩) (z7.block _ (by simp only []; omega) (by simp only []; omega))).trans R_f1
  replace oq := oq.turn z7 (by omega)
  replace X_0 := (z7.cell (p := ⟨w4.heap.size, 0, none⟩) (by simp only []; omega) (by simp only []; omega)).trans X_0
  replace X_1 := (z7.cell (p := ⟨w4.heap.size, 1, none⟩) (by simp only []; omega) (by simp only []; omega)).trans X_1
  cases t with
  | true =>
    go_wp2_with fail
    have hdr : Below w7.heap.size w7 w7.drew := (Below.refl _ _).drew
    refine wp_region_noPanic ?_
    refine wp_region_held_drew (S := (fun W => W.cell? ⟨w4.heap.size, 0, none⟩ = some (.int .i64 c0) ∧ W.cell? ⟨w4.heap.size, 1, none⟩ = some (.slice b n c))) (by kernel_rfl) ?hS9 (fun hHeld => ?_)
    case hS9 => exact ⟨X_0, X_1⟩
    refine wpAnyH_take (i := 0) (v := ?v0_10) rfl (by kernel_rfl) (by kernel_rfl) (by kernel_rfl) (fun _ _ _ h => h) (Or.inl ⟨by rfl, ?hy0_10⟩) (by assumption) ?rest0_10
    case hy0_10 => intro w hSw; (try dsimp only at hSw); go_simp; (try with_reducible rfl)
    try simp only [Act.put, List.getElem_toArray, List.getElem_cons_succ, List.getElem_cons_zero, List.setIfInBounds_toArray, List.set_cons_zero, List.set_cons_succ]
    refine wpAnyH_take (i := 1) (v := ?v1_11) rfl (by kernel_rfl) (by kernel_rfl) (by kernel_rfl) (fun _ _ _ h => h) (Or.inl ⟨by rfl, ?hy1_11⟩) (by assumption) ?rest1_11
    case hy1_11 => intro w hSw; (try dsimp only at hSw); go_simp; (try with_reducible rfl)
    try simp only [Act.put, List.getElem_toArray, List.getElem_cons_succ, List.getElem_cons_zero, List.setIfInBounds_toArray, List.set_cons_zero, List.set_cons_succ]
    refine wpAnyH_ready (rs := [2]) (by kernel_rfl) (by simp) ?_
    refine AllReadyH.cons rfl (fun K9 hK9 => ?_) AllReadyH.nil
    go_simp
    refine (fullMask_spec _ x w7.drew ((oq.below hdr (by omega)).rd reads_Q)).mono ?_
    rintro e wA ⟨rfl, zA⟩
    have tA : Turn cb (cb + 1) w7 wA := (turn_below hdr (Nat.le_refl _)).trans (turn_below zA (by simp))
    obtain ⟨k, hk⟩ : ∃ k, fullMask x = k := ⟨_, rfl⟩
    rw [hk]
    clear hk zA
    have sA := tA.size
    have hbA : Below w.heap.size w wA := hb8.trans ((tA.below (by omega)).mono (by omega))
    have oqA := oq.turn tA (by omega)
    replace X_0 := (tA.cell (p := ⟨w4.heap.size, 0, none⟩) (by simp only []; omega) (by simp only []; omega)).trans X_0
    replace X_1 := (tA.cell (p := ⟨w4.heap.size, 1, none⟩) (by simp only []; omega) (by simp only []; omega)).trans X_1
    replace R_0 := (tA.cell (p := ⟨w.heap.size, 0, none⟩) (by simp only []; omega) (by simp only []; omega)).trans R_0
    replace R_1 := (tA.cell (p := ⟨w.heap.size, 1, none⟩) (by simp only []; omega) (by simp only []; omega)).trans R_1
    replace R_f0 := (tA.frozen (p := ⟨w.heap.size, 0, none⟩) (by simp only []; omega) (by simp only []; omega)).trans R_f0
    replace R_f1 := (tA.frozen (p := ⟨w.heap.size, 1, none⟩) (by simp only []; omega) (by simp only []; omega)).trans R_f1
    clear oq HC tA
    refine hK9.out _ _ ⟨X_0, X_1⟩ (fun hHeld => ?_)
    clear hK9 K9
    try simp only [Act.put, List.getElem_toArray, List.getElem_cons_succ, List.getElem_cons_zero, List.setIfInBounds_toArray, List.set_cons_zero, List.set_cons_succ]
    refine wpAnyH_ready (rs := [3]) (by kernel_rfl) (by simp) ?_
    refine AllReadyH.cons rfl (fun K9 hK9 => ?_) AllReadyH.nil
    go_simp
    obtain ⟨wF, hwF⟩ : ∃ W, W = (wA.setCell ⟨w.heap.size, 0, none⟩ (.int .i64 c0)).setCell ⟨w.heap.size, 1, none⟩ (.slice b n c) := ⟨_, rfl⟩
    rw [← hwF]
    have zF : Below w.heap.size wA wF := by
      rw [hwF]
      repeat (refine Below.setCell ?_ (by simp only []; omega) _)
      exact Below.refl _ _
    have sF : wF.heap.size = wA.heap.size := by rw [hwF]; simp [World.setCell]
    have F_0 : wF.cell? ⟨w.heap.size, 0, none⟩ = some (.int .i64 c0) := by rw [hwF]; simp [go_sem, R_0, R_1]
    have F_1 : wF.cell? ⟨w.heap.size, 1, none⟩ = some (.slice b n c) := by rw [hwF]; simp [go_sem, R_0, R_1]
    have F_f0 : wF.frozen? ⟨w.heap.size, 0, none⟩ = false := by rw [hwF]; simp [go_sem, R_f0, R_f1]
    have F_f1 : wF.frozen? ⟨w.heap.size, 1, none⟩ = false := by rw [hwF]; simp [go_sem, R_f0, R_f1]
    have G_0 : wF.cell? ⟨w4.heap.size, 0, none⟩ = some (.int .i64 c0) := by
      rw [hwF]
      refine (World.cell?_of_block (a := ⟨w4.heap.size, 0, none⟩) ?_).trans X_0
      rw [Below.heap_setCell _ _ _ _ (by simp only []; omega), Below.heap_setCell _ _ _ _ (by simp only []; omega)]
    have G_1 : wF.cell? ⟨w4.heap.size, 1, none⟩ = some (.slice b n c) := by
      rw [hwF]
      refine (World.cell?_of_block (a := ⟨w4.heap.size, 1, none⟩) ?_).trans X_1
      rw [Below.heap_setCell _ _ _ _ (by simp only []; omega), Below.heap_setCell _ _ _ _ (by simp only []; omega)]
    have oqF : Own oQ lo4 hi5 wF [.int .i64 c0, .slice b n c] x := by
      rw [hwF]
      repeat (refine own_off ?_ rfl (by simp only []; omega))
      exact oqA
    clear hwF R_0 R_1 R_f0 R_f1 oqA X_0 X_1
    refine hK9.out _ _ ⟨G_0, G_1⟩ (fun hHeld => ?_)
    clear hK9 K9
    try simp only [Act.put, List.getElem_toArray, List.getElem_cons_succ, List.getElem_cons_zero, List.setIfInBounds_toArray, List.set_cons_zero, List.set_cons_succ]
    refine wpAnyH_take (i := 4) (v := ?v4_12) rfl (by kernel_rfl) (by kernel_rfl) (by kernel_rfl) (fun _ _ _ h => h) (Or.inl ⟨by rfl, ?hy4_12⟩) (by assumption) ?rest4_12
    case hy4_12 => intro w hSw; (try dsimp only at hSw); go_simp; (try with_reducible rfl)
    try simp only [Act.put, List.getElem_toArray, List.getElem_cons_succ, List.getElem_cons_zero, List.setIfInBounds_toArray, List.set_cons_zero, List.set_cons_succ]
    refine wpAnyH_done (by kernel_rfl) ?_ _
    refine NoPanic.normal ?_
    go_wp2_with fail
    refine bodyPost_ret (v := .tuple #[.agg #[.int .i64 c0, .slice b n c], .int .i64 k]) (by simp [results, Try.results21, go_sem, F_0, F_1, F_f0, F_f1]) rfl ⟨c0, b, n, c, x, k, rfl, oqF.mono (by omega) (by omega), hx15, hbA.trans zF⟩
  | false =>
    go_wp2_with fail
    have hdr : Below w7.heap.size w7 w7.drew := (Below.refl _ _).drew
    refine wp_region_noPanic ?_
    refine wp_region_held_drew (S := (fun W => W.cell? ⟨w4.heap.size, 0, none⟩ = some (.int .i64 c0) ∧ W.cell? ⟨w4.heap.size, 1, none⟩ = some (.slice b n c))) (by kernel_rfl) ?hS13 (fun hHeld => ?_)
    case hS13 => exact ⟨X_0, X_1⟩
    refine wpAnyH_take (i := 0) (v := ?v0_14) rfl (by kernel_rfl) (by kernel_rfl) (by kernel_rfl) (fun _ _ _ h => h) (Or.inl ⟨by rfl, ?hy0_14⟩) (by assumption) ?rest0_14
    case hy0_14 => intro w hSw; (try dsimp only at hSw); go_simp; (try with_reducible rfl)
    try simp only [Act.put, List.getElem_toArray, List.getElem_cons_succ, List.getElem_cons_zero, List.setIfInBounds_toArray, List.set_cons_zero, List.set_cons_succ]
    refine wpAnyH_take (i := 1) (v := ?v1_15) rfl (by kernel_rfl) (by kernel_rfl) (by kernel_rfl) (fun _ _ _ h => h) (Or.inl ⟨by rfl, ?hy1_15⟩) (by assumption) ?rest1_15
    case hy1_15 => intro w hSw; (try dsimp only at hSw); go_simp; (try with_reducible rfl)
    try simp only [Act.put, List.getElem_toArray, List.getElem_cons_succ, List.getElem_cons_zero, List.setIfInBounds_toArray, List.set_cons_zero, List.set_cons_succ]
    refine wpAnyH_take (i := 2) (v := ?v2_16) rfl (by kernel_rfl) (by kernel_rfl) (by kernel_rfl) (fun _ _ _ h => h) (Or.inl ⟨by rfl, ?hy2_16⟩) (by assumption) ?rest2_16
    case hy2_16 => intro w hSw; (try dsimp only at hSw); go_simp; (try with_reducible rfl)
    try simp only [Act.put, List.getElem_toArray, List.getElem_cons_succ, List.getElem_cons_zero, List.setIfInBounds_toArray, List.set_cons_zero, List.set_cons_succ]
    refine wpAnyH_ready (rs := [3]) (by kernel_rfl) (by simp) ?_
    refine AllReadyH.cons rfl (fun K9 hK9 => ?_) AllReadyH.nil
    go_simp
    refine (l8Mask_any _ cb ba bn bc c0 b n c hn1 hn5 (HC.below' hdr (by omega)) (show cb < w7.heap.size by omega)).mono ?_
    rintro e wA ⟨k, rfl, HC2, tA⟩
    replace tA : Turn cb (cb + 1) w7 wA := (turn_below hdr (Nat.le_refl _)).trans tA
    clear HC2
    have sA := tA.size
    have hbA : Below w.heap.size w wA := hb8.trans ((tA.below (by omega)).mono (by omega))
    have oqA := oq.turn tA (by omega)
    replace X_0 := (tA.cell (p := ⟨w4.heap.size, 0, none⟩) (by simp only []; omega) (by simp only []; omega)).trans X_0
    replace X_1 := (tA.cell (p := ⟨w4.heap.size, 1, none⟩) (by simp only []; omega) (by simp only []; omega)).trans X_1
    replace R_0 := (tA.cell (p := ⟨w.heap.size, 0, none⟩) (by simp only []; omega) (by simp only []; omega)).trans R_0
    replace R_1 := (tA.cell (p := ⟨w.heap.size, 1, none⟩) (by simp only []; omega) (by simp only []; omega)).trans R_1
    replace R_f0 := (tA.frozen (p := ⟨w.heap.size, 0, none⟩) (by simp only []; omega) (by simp only []; omega)).trans R_f0
    replace R_f1 := (tA.frozen (p := ⟨w.heap.size, 1, none⟩) (by simp only []; omega) (by simp only []; omega)).trans R_f1
    clear oq HC tA
    refine hK9.out _ _ ⟨X_0, X_1⟩ (fun hHeld => ?_)
    clear hK9 K9
    try simp only [Act.put, List.getElem_toArray, List.getElem_cons_succ, List.getElem_cons_zero, List.setIfInBounds_toArray, List.set_cons_zero, List.set_cons_succ]
    refine wpAnyH_ready (rs := [4]) (by kernel_rfl) (by simp) ?_
    refine AllReadyH.cons rfl (fun K9 hK9 => ?_) AllReadyH.nil
    go_simp
    obtain ⟨wF, hwF⟩ : ∃ W, W = (wA.setCell ⟨w.heap.size, 0, none⟩ (.int .i64 c0)).setCell ⟨w.heap.size, 1, none⟩ (.slice b n c) := ⟨_, rfl⟩
    rw [← hwF]
    have zF : Below w.heap.size wA wF := by
      rw [hwF]
      repeat (refine Below.setCell ?_ (by simp only []; omega) _)
      exact Below.refl _ _
    have sF : wF.heap.size = wA.heap.size := by rw [hwF]; simp [World.setCell]
    have F_0 : wF.cell? ⟨w.heap.size, 0, none⟩ = some (.int .i64 c0) := by rw [hwF]; simp [go_sem, R_0, R_1]
    have F_1 : wF.cell? ⟨w.heap.size, 1, none⟩ = some (.slice b n c) := by rw [hwF]; simp [go_sem, R_0, R_1]
    have F_f0 : wF.frozen? ⟨w.heap.size, 0, none⟩ = false := by rw [hwF]; simp [go_sem, R_f0, R_f1]
    have F_f1 : wF.frozen? ⟨w.heap.size, 1, none⟩ = false := by rw [hwF]; simp [go_sem, R_f0, R_f1]
    have G_0 : wF.cell? ⟨w4.heap.size, 0, none⟩ = some (.int .i64 c0) := by
      rw [hwF]
      refine (World.cell?_of_block (a := ⟨w4.heap.size, 0, none⟩) ?_).trans X_0
      rw [Below.heap_setCell _ _ _ _ (by simp only []; omega), Below.heap_setCell _ _ _ _ (by simp only []; omega)]
    have G_1 : wF.cell? ⟨w4.heap.size, 1, none⟩ = some (.slice b n c) := by
      rw [hwF]
      refine (World.cell?_of_block (a := ⟨w4.heap.size, 1, none⟩) ?_).trans X_1
      rw [Below.heap_setCell _ _ _ _ (by simp only []; omega), Below.heap_setCell _ _ _ _ (by simp only []; omega)]
    have oqF : Own oQ lo4 hi5 wF [.int .i64 c0, .slice b n c] x := by
      rw [hwF]
      repeat (refine own_off ?_ rfl (by simp only []; omega))
      exact oqA
    clear hwF R_0 R_1 R_f0 R_f1 oqA X_0 X_1
    refine hK9.out _ _ ⟨G_0, G_1⟩ (fun hHeld => ?_)
    clear hK9 K9
    try simp only [Act.put, List.getElem_toArray, List.getElem_cons_succ, List.getElem_cons_zero, List.setIfInBounds_toArray, List.set_cons_zero, List.set_cons_succ]
    refine wpAnyH_take (i := 5) (v := ?v5_17) rfl (by kernel_rfl) (by kernel_rfl) (by kernel_rfl) (fun _ _ _ h => h) (Or.inl ⟨by rfl, ?hy5_17⟩) (by assumption) ?rest5_17
    case hy5_17 => intro w hSw; (try dsimp only at hSw); go_simp; (try with_reducible rfl)
    try simp only [Act.put, List.getElem_toArray, List.getElem_cons_succ, List.getElem_cons_zero, List.setIfInBounds_toArray, List.set_cons_zero, List.set_cons_succ]
    refine wpAnyH_done (by kernel_rfl) ?_ _
    refine NoPanic.normal ?_
    go_wp2_with fail
    refine bodyPost_ret (v := .tuple #[.agg #[.int .i64 c0, .slice b n c], .int .i64 k]) (by simp [results, Try.results21, go_sem, F_0, F_1, F_f0, F_f1]) rfl ⟨c0, b, n, c, x, k, rfl, oqF.mono (by omega) (by omega), hx15, hbA.trans zF⟩

set_option maxRecDepth 100000 in
set_option maxHeartbeats 4000000 in
theorem drawSplits_any (w : World) (ba : Option Addr) (bn bc : Nat) (hn : bn ≤ 2000000) (h : Bytes w w.heap.size ba bn) :
    Calls Try.prog 5 #[.slice ba bn bc] w fun e w' => ∃ (c0 : Int) (b : Option Addr) (n c : Nat) (x : DQ) (k : Int), e = .returned (.tuple #[.agg #[.int .i64 c0, .slice b n c], .int .i64 k]) ∧ Own oQ w.heap.size w'.heap.size w' [.int .i64 c0, .slice b n c] x ∧ (1 ≤ x.2.length ∧ x.2.length ≤ 5) ∧ Below w.heap.size w w' := by
  have hb0 : Below w.heap.size w w := Below.refl _ _
  go_enter Try.func5, Try.ntmps5
  obtain ⟨w1, hw1⟩ : ∃ W, W = w.alloc (.cells #[.int .i64 0, .slice none 0 0] 26) := ⟨_, rfl⟩
  have z1 : Below w.heap.size w w1 := by rw [hw1]; exact (Below.refl _ _).alloc (Nat.le_refl _) _
  have s1 : w1.heap.size = w.heap.size + 1 := by rw [hw1]; simp
  have hb1 := on hb0 z1
  have R_0 : w1.cell? ⟨w.heap.size, 0, none⟩ = some (.int .i64 0) := by rw [hw1]; exact box_cell (Below.refl _ _) rfl
  have R_1 : w1.cell? ⟨w.heap.size, 1, none⟩ = some (.slice none 0 0) := by rw [hw1]; exact box_cell (Below.refl _ _) rfl
  have R_f0 : w1.frozen? ⟨w.heap.size, 0, none⟩ = false := by rw [hw1]; exact box_frozen (Below.refl _ _)
  have R_f1 : w1.frozen? ⟨w.heap.size, 1, none⟩ = false := by rw [hw1]; exact box_frozen (Below.refl _ _)
  have raw1_R_0 := R_0
  have raw1_R_1 := R_1
  have raw1_R_f0 := R_f0
  have raw1_R_f1 := R_f1
  rw [hw1] at raw1_R_0 raw1_R_1 raw1_R_f0 raw1_R_f1
  have HBY := Lib.hid (h.at hb1)
  clear h
  go_wp2_with fail
  rw [← hw1]
  clear hw1
  clear raw1_R_0 raw1_R_1 raw1_R_f0 raw1_R_f1
  obtain ⟨lo4, hlo4⟩ : ∃ q, q = w1.heap.size := ⟨_, rfl⟩
  refine (l8Both_any _ ba bn bc hn HBY.out).mono ?_
  rintro e w2 ⟨c0, b, n, c, x, k, rfl, oq, hx15, z2⟩
  have s3 := z2.size
  have hb3 := on hb1 z2
  replace R_0 := (z2.cell (p := ⟨w.heap.size, 0, none⟩) (by simp only []; omega)).trans R_0
  replace R_1 := (z2.cell (p := ⟨w.heap.size, 1, none⟩) (by simp only []; omega)).trans R_1
  replace R_f0 := (z2.frozen (p := ⟨w.heap.size, 0, none⟩) (by simp only []; omega)).trans R_f0
  replace R_f1 := (z2.frozen (p := ⟨w.heap.size, 1, none⟩) (by simp only []; omega)).trans R_f1
  clear HBY
  rw [← hlo4] at oq
  obtain ⟨hi5, hhi5⟩ : ∃ q, q = w2.heap.size := ⟨_, rfl⟩
  rw [← hhi5] at oq
  obtain ⟨w4, hw4⟩ : ∃ W, W = w2.alloc (.cells #[.int .i64 c0, .slice b n c] 26) := ⟨_, rfl⟩
  have z4 : Below w2.heap.size w2 w4 := by rw [hw4]; exact (Below.refl _ _).alloc (Nat.le_refl _) _
  have s4 : w4.heap.size = w2.heap.size + 1 := by rw [hw4]; simp
  have hb4 := on hb3 z4
  have old4_R_0 := R_0
  have old4_R_1 := R_1
  replace R_0 := (z4.cell (p := ⟨w.heap.size, 0, none⟩) (by simp only []; omega)).trans R_0
  replace R_1 := (z4.cell (p := ⟨w.heap.size, 1, none⟩) (by simp only []; omega)).trans R_1
  replace R_f0 := (z4.frozen (p := ⟨w.heap.size, 0, none⟩) (by simp only []; omega)).trans R_f0
  replace R_f1 := (z4.frozen (p := ⟨w.heap.size, 1, none⟩) (by simp only []; omega)).trans R_f1
  replace oq := oq.below z4 (by omega)
  have X_0 : w4.cell? ⟨w2.heap.size, 0, none⟩ = some (.int .i64 c0) := by rw [hw4]; exact box_cell (Below.refl _ _) rfl
  have X_1 : w4.cell? ⟨w2.heap.size, 1, none⟩ = some (.slice b n c) := by rw [hw4]; exact box_cell (Below.refl _ _) rfl
  have raw4_R_0 := R_0
  have raw4_R_1 := R_1
  have raw4_R_f0 := R_f0
  have raw4_R_f1 := R_f1
  have raw4_X_0 := X_0
  have raw4_X_1 := X_1
  rw [hw4] at raw4_R_0 raw4_R_1 raw4_R_f0 raw4_R_f1 raw4_X_0 raw4_X_1
  go_wp2_with fail
  rw [← hw4]
  clear hw4
  clear old4_R_0 old4_R_1 raw4_R_0 raw4_R_1 raw4_R_f0 raw4_R_f1 raw4_X_0 raw4_X_1
  refine bodyPost_ret (v := .tuple #[.agg #[.int .i64 c0, .slice b n c], .int .i64 k]) (by simp [results, Try.results5, go_sem, R_0, R_1, R_f0, R_f1]) rfl ⟨c0, b, n, c, x, k, rfl, ?_, hx15, ?_⟩
  · refine Own.mono (lo := lo4) (hi := hi5) ?_ (by omega) (by simp [World.setCell]; omega)
    repeat (refine own_off ?_ rfl (by simp only []; omega))
    exact oq
  · refine hb4.trans ?_
    repeat (refine Below.setCell ?_ (by simp only []; omega) _)
    exact Below.refl _ _

end Go.Proofs.Ytpgfkjcekhifiaa

/- The walk of the law FnQueryGraph. -/
namespace Go.Proofs.Ytpgfkjcekhifiaa
open Go.RowKit
set_option linter.unusedVariables false
set_option linter.unusedSimpArgs false
set_option synthInstance.maxSize 2000
set_option synthInstance.maxHeartbeats 400000

theorem oI_form9 {lo hi : Nat} {w : World} {u : Value} {xs : List Int} (h : Own oI lo hi w [u] xs) : ∃ b n c, u = .slice b n c := by
  obtain ⟨b, n, c, e⟩ := rI_form (h.rd reads_I)
  simp only [List.cons.injEq, and_true] at e
  exact ⟨b, n, c, e⟩

theorem or_int : ∀ K : Nat, K < 16 → ∀ v : Nat, v < 4 → bits BinOp.or IntKind.i64 (K : Int) (IntKind.i64.wrap ((2 : Int) ^ v)) = ((K ||| 2 ^ v : Nat) : Int) := by decide +kernel
theorem near_i64 (x : DQ) (k : Int) : I64 (nearMask x k) := by
  unfold nearMask
  split
  · rename_i h
    obtain ⟨n, hq⟩ := QOk.of (maskOkB_valid h)
    have h1 := Nat.lt_of_lt_of_le (near_lt x k.toNat) (pow_le16 hq.len)
    constructor <;> omega
  · constructor <;> decide

set_option maxRecDepth 100000 in
set_option maxHeartbeats 16000000 in
theorem walk_FnQueryGraph (v0 : Value) (w : World) (h0 : kB_in w v0) :
    Calls Try.prog 3 #[v0] w fun e w' => e = .returned (.bool true) ∧ Below w.heap.size w w' := by
  obtain ⟨ba, bn, bc, rfl, hB⟩ := h0
  have hb0 : Below w.heap.size w w := Below.refl _ _
  go_enter Try.func3, Try.ntmps3
  go_wp2_with fail
  refine (big_any _ _ _ _).mono ?_
  rintro e w' ⟨rfl, rfl⟩
  by_cases hbig : 1048576 < bn
  · have e9 : decide (1048576 < bn) = true := by simpa using hbig
    rw [e9]
    go_wp2_with fail
    go_ret
    exact ⟨rfl, hb0⟩
  have e9 : decide (1048576 < bn) = false := by simpa using hbig
  rw [e9]
  clear e9
  go_wp2_with fail
  refine (drawSplits_any _ ba bn bc (by omega) hB).mono ?_
  rintro e w1 ⟨c0, qb, qn, qc, x, k, rfl, oq, hx15, z1⟩
  have s2 := z1.size
  have hb2 := on hb0 z1
  clear hB hbig hx15
  obtain ⟨w3, hw3⟩ : ∃ W, W = w1.alloc (.cells #[.int .i64 c0, .slice qb qn qc] 26) := ⟨_, rfl⟩
  have z3 : Below w1.heap.size w1 w3 := by rw [hw3]; exact (Below.refl _ _).alloc (Nat.le_refl _) _
  have s3 : w3.heap.size = w1.heap.size + 1 := by rw [hw3]; simp
  have hb3 := on hb2 z3
  replace oq := oq.below z3 (by omega)
  have X_0 : w3.cell? ⟨w1.heap.size, 0, none⟩ = some (.int .i64 c0) := by rw [hw3]; exact box_cell (Below.refl _ _) rfl
  have X_1 : w3.cell? ⟨w1.heap.size, 1, none⟩ = some (.slice qb qn qc) := by rw [hw3]; exact box_cell (Below.refl _ _) rfl
  have raw3_X_0 := X_0
  have raw3_X_1 := X_1
  rw [hw3] at raw3_X_0 raw3_X_1
  go_wp2_with fail
  rw [← hw3]
  clear hw3
  clear raw3_X_0 raw3_X_1
  refine (joinSplits_impl _ x k _ (oq.rd reads_Q)).mono ?_
  rintro e w4 ⟨u1, rfl, oL, z4⟩
  have s5 := z4.size
  have hb5 := on hb3 z4
  replace oq := oq.below z4 (by omega)
  replace X_0 := (z4.cell (p := ⟨w1.heap.size, 0, none⟩) (by simp only []; omega)).trans X_0
  replace X_1 := (z4.cell (p := ⟨w1.heap.size, 1, none⟩) (by simp only []; omega)).trans X_1
  obtain ⟨lb, ln, lc, rfl⟩ := oI_form9 oL
  have HSP := Lib.hid (fun (y : Int) (hy : y ∈ joinSplits x k) => split_law hy)
  have HSS := Lib.hid (fun (h : isConn x k = true) => some_split h)
  obtain ⟨L, hL⟩ : ∃ q, joinSplits x k = q := ⟨_, rfl⟩
  rw [hL] at oL HSP HSS
  have HL := Lib.hid hL
  clear hL
  obtain ⟨hln, _, _, iL⟩ := rI_open9 (oL.rd reads_I)
  subst hln
  go_wp2_with fail
  have hdr : Below w4.heap.size w4 w4.drew := (Below.refl _ _).drew
  refine wp_region_noPanic ?_
  refine wp_region_held_drew (S := (fun W => W.cell? ⟨w1.heap.size, 0, none⟩ = some (.int .i64 c0) ∧ W.cell? ⟨w1.heap.size, 1, none⟩ = some (.slice qb qn qc))) (by kernel_rfl) ?hS6 (fun hHeld => ?_)
  case hS6 => exact ⟨X_0, X_1⟩
  refine wpAnyH_take (i := 0) (v := ?v0_7) rfl (by kernel_rfl) (by kernel_rfl) (by kernel_rfl) (fun _ _ _ h => h) (Or.inl ⟨by rfl, ?hy0_7⟩) (by assumption) ?rest0_7
  case hy0_7 => intro w hSw; (try dsimp only at hSw); go_simp; (try with_reducible rfl)
  try simp only [Act.put, List.getElem_toArray, List.getElem_cons_succ, List.getElem_cons_zero, List.setIfInBounds_toArray, List.set_cons_zero, List.set_cons_succ]
  refine wpAnyH_take (i := 1) (v := ?v1_8) rfl (by kernel_rfl) (by kernel_rfl) (by kernel_rfl) (fun _ _ _ h => h) (Or.inl ⟨by rfl, ?hy1_8⟩) (by assumption) ?rest1_8
  case hy1_8 => intro w hSw; (try dsimp only at hSw); go_simp; (try with_reducible rfl)
  try simp only [Act.put, List.getElem_toArray, List.getElem_cons_succ, List.getElem_cons_zero, List.setIfInBounds_toArray, List.set_cons_zero, List.set_cons_succ]
  refine wpAnyH_take (i := 2) (v := ?v2_9) rfl (by kernel_rfl) (by kernel_rfl) (by kernel_rfl) (fun _ _ _ h => h) (Or.inl ⟨by rfl, ?hy2_9⟩) (by assumption) ?rest2_9
  case hy2_9 => intro w hSw; (try dsimp only at hSw); go_simp; (try with_reducible rfl)
  try simp only [Act.put, List.getElem_toArray, List.getElem_cons_succ, List.getElem_cons_zero, List.setIfInBounds_toArray, List.set_cons_zero, List.set_cons_succ]
  refine wpAnyH_ready (rs := [3]) (by kernel_rfl) (by simp) ?_
  refine AllReadyH.cons rfl (fun K9 hK9 => ?_) AllReadyH.nil
  go_simp
  (refine (joinSplits_spec _ x k _ ((oq.below hdr (by omega)).rd reads_Q)).mono ?_)
  rintro e wa ⟨u2, rfl, oS, ywa⟩
  replace ywa : Below w4.heap.size w4 wa := on hdr ywa
  have swa := ywa.size
  rw [HL.out] at oS
  obtain ⟨sb, sn, sc, rfl⟩ := oI_form9 oS
  obtain ⟨hsn, _, _, iS⟩ := rI_open9 (oS.rd reads_I)
  subst hsn
  refine hK9.out _ _ ⟨(ywa.cell (p := ⟨w1.heap.size, 0, none⟩) (by simp only []; omega)).trans X_0, (ywa.cell (p := ⟨w1.heap.size, 1, none⟩) (by simp only []; omega)).trans X_1⟩ (fun hHeld => ?_)
  clear hK9 K9
  try simp only [Act.put, List.getElem_toArray, List.getElem_cons_succ, List.getElem_cons_zero, List.setIfInBounds_toArray, List.set_cons_zero, List.set_cons_succ]
  refine wpAnyH_ready (rs := [4]) (by kernel_rfl) (by simp) ?_
  refine AllReadyH.cons rfl (fun K9 hK9 => ?_) AllReadyH.nil
  go_simp
  (refine (sameInts_eq _ _ _ _ _ L _ (iL.below ywa) iS).mono ?_)
  rintro e wb ⟨rfl, ywb⟩
  replace ywb : Below w4.heap.size w4 wb := on ywa (ywb.below _)
  have swb := ywb.size
  refine hK9.out _ _ ⟨(ywb.cell (p := ⟨w1.heap.size, 0, none⟩) (by simp only []; omega)).trans X_0, (ywb.cell (p := ⟨w1.heap.size, 1, none⟩) (by simp only []; omega)).trans X_1⟩ (fun hHeld => ?_)
  clear hK9 K9
  try simp only [Act.put, List.getElem_toArray, List.getElem_cons_succ, List.getElem_cons_zero, List.setIfInBounds_toArray, List.set_cons_zero, List.set_cons_succ]
  refine wpAnyH_take (i := 5) (v := ?v5_10) rfl (by kernel_rfl) (by kernel_rfl) (by kernel_rfl) (fun _ _ _ h => h) (Or.inl ⟨by rfl, ?hy5_10⟩) (by assumption) ?rest5_10
  case hy5_10 => intro w hSw; (try dsimp only at hSw); go_simp; (try with_reducible rfl)
  try simp only [Act.put, List.getElem_toArray, List.getElem_cons_succ, List.getElem_cons_zero, List.setIfInBounds_toArray, List.set_cons_zero, List.set_cons_succ]
  refine wpAnyH_take (i := 6) (v := ?v6_11) rfl (by kernel_rfl) (by kernel_rfl) (by kernel_rfl) (fun _ _ _ h => h) (Or.inl ⟨by rfl, ?hy6_11⟩) (by assumption) ?rest6_11
  case hy6_11 => intro w hSw; (try dsimp only at hSw); go_simp; (try with_reducible rfl)
  try simp only [Act.put, List.getElem_toArray, List.getElem_cons_succ, List.getElem_cons_zero, List.setIfInBounds_toArray, List.set_cons_zero, List.set_cons_succ]
  refine wpAnyH_take (i := 7) (v := ?v7_12) rfl (by kernel_rfl) (by kernel_rfl) (by kernel_rfl) (fun _ _ _ h => h) (Or.inl ⟨by rfl, ?hy7_12⟩) (by assumption) ?rest7_12
  case hy7_12 => intro w hSw; (try dsimp only at hSw); go_simp; (try with_reducible rfl)
  try simp only [Act.put, List.getElem_toArray, List.getElem_cons_succ, List.getElem_cons_zero, List.setIfInBounds_toArray, List.set_cons_zero, List.set_cons_succ]
  refine wpAnyH_take (i := 8) (v := ?v8_13) rfl (by kernel_rfl) (by kernel_rfl) (by kernel_rfl) (fun _ _ _ h => h) (Or.inl ⟨by rfl, ?hy8_13⟩) (by assumption) ?rest8_13
  case hy8_13 => intro w hSw; (try dsimp only at hSw); go_simp; (try with_reducible rfl)
  try simp only [Act.put, List.getElem_toArray, List.getElem_cons_succ, List.getElem_cons_zero, List.setIfInBounds_toArray, List.set_cons_zero, List.set_cons_succ]
  refine wpAnyH_take (i := 10) (v := ?v10_14) rfl (by kernel_rfl) (by kernel_rfl) (by kernel_rfl) (fun _ _ _ h => h) (Or.inl ⟨by rfl, ?hy10_14⟩) (by assumption) ?rest10_14
  case hy10_14 => intro w hSw; (try dsimp only at hSw); go_simp; (try with_reducible rfl)
  try simp only [Act.put, List.getElem_toArray, List.getElem_cons_succ, List.getElem_cons_zero, List.setIfInBounds_toArray, List.set_cons_zero, List.set_cons_succ]
  refine wpAnyH_take (i := 11) (v := ?v11_15) rfl (by kernel_rfl) (by kernel_rfl) (by kernel_rfl) (fun _ _ _ h => h) (Or.inl ⟨by rfl, ?hy11_15⟩) (by assumption) ?rest11_15
  case hy11_15 => intro w hSw; (try dsimp only at hSw); go_simp; (try with_reducible rfl)
  try simp only [Act.put, List.getElem_toArray, List.getElem_cons_succ, List.getElem_cons_zero, List.setIfInBounds_toArray, List.set_cons_zero, List.set_cons_succ]
  refine wpAnyH_ready (rs := [9]) (by kernel_rfl) (by simp) ?_
  refine AllReadyH.cons rfl (fun K9 hK9 => ?_) AllReadyH.nil
  go_simp
  (refine (isConn_impl _ x k _ ((oq.below ywb (by omega)).rd reads_Q)).mono ?_)
  rintro e wc ⟨rfl, ywc⟩
  replace ywc : Below w4.heap.size w4 wc := on ywb ywc
  have swc := ywc.size
  refine hK9.out _ _ ⟨(ywc.cell (p := ⟨w1.heap.size, 0, none⟩) (by simp only []; omega)).trans X_0, (ywc.cell (p := ⟨w1.heap.size, 1, none⟩) (by simp only []; omega)).trans X_1⟩ (fun hHeld => ?_)
  clear hK9 K9
  try simp only [Act.put, List.getElem_toArray, List.getElem_cons_succ, List.getElem_cons_zero, List.setIfInBounds_toArray, List.set_cons_zero, List.set_cons_succ]
  refine wpAnyH_ready (rs := [12]) (by kernel_rfl) (by simp) ?_
  refine AllReadyH.cons rfl (fun K9 hK9 => ?_) AllReadyH.nil
  go_simp
  (refine (isConn_spec _ x k _ ((oq.below ywc (by omega)).rd reads_Q)).mono ?_)
  rintro e wd ⟨rfl, ywd⟩
  replace ywd : Below w4.heap.size w4 wd := on ywc ywd
  have swd := ywd.size
  refine hK9.out _ _ ⟨(ywd.cell (p := ⟨w1.heap.size, 0, none⟩) (by simp only []; omega)).trans X_0, (ywd.cell (p := ⟨w1.heap.size, 1, none⟩) (by simp only []; omega)).trans X_1⟩ (fun hHeld => ?_)
  clear hK9 K9
  try simp only [Act.put, List.getElem_toArray, List.getElem_cons_succ, List.getElem_cons_zero, List.setIfInBounds_toArray, List.set_cons_zero, List.set_cons_succ]
  refine wpAnyH_take (i := 13) (v := ?v13_16) rfl (by kernel_rfl) (by kernel_rfl) (by kernel_rfl) (fun _ _ _ h => h) (Or.inl ⟨by rfl, ?hy13_16⟩) (by assumption) ?rest13_16
  case hy13_16 => intro w hSw; (try dsimp only at hSw); go_simp; (try with_reducible rfl)
  try simp only [Act.put, List.getElem_toArray, List.getElem_cons_succ, List.getElem_cons_zero, List.setIfInBounds_toArray, List.set_cons_zero, List.set_cons_succ]
  refine wpAnyH_take (i := 14) (v := ?v14_17) rfl (by kernel_rfl) (by kernel_rfl) (by kernel_rfl) (fun _ _ _ h => h) (Or.inl ⟨by rfl, ?hy14_17⟩) (by assumption) ?rest14_17
  case hy14_17 => intro w hSw; (try dsimp only at hSw); go_simp; (try with_reducible rfl)
  try simp only [Act.put, List.getElem_toArray, List.getElem_cons_succ, List.getElem_cons_zero, List.setIfInBounds_toArray, List.set_cons_zero, List.set_cons_succ]
  refine wpAnyH_take (i := 15) (v := ?v15_18) rfl (by kernel_rfl) (by kernel_rfl) (by kernel_rfl) (fun _ _ _ h => h) (Or.inl ⟨by rfl, ?hy15_18⟩) (by assumption) ?rest15_18
  case hy15_18 => intro w hSw; (try dsimp only at hSw); go_simp; (try with_reducible rfl)
  try simp only [Act.put, List.getElem_toArray, List.getElem_cons_succ, List.getElem_cons_zero, List.setIfInBounds_toArray, List.set_cons_zero, List.set_cons_succ]
  refine wpAnyH_take (i := 16) (v := ?v16_19) rfl (by kernel_rfl) (by kernel_rfl) (by kernel_rfl) (fun _ _ _ h => h) (Or.inl ⟨by rfl, ?hy16_19⟩) (by assumption) ?rest16_19
  case hy16_19 => intro w hSw; (try dsimp only at hSw); go_simp; (try with_reducible rfl)
  try simp only [Act.put, List.getElem_toArray, List.getElem_cons_succ, List.getElem_cons_zero, List.setIfInBounds_toArray, List.set_cons_zero, List.set_cons_succ]
  refine wpAnyH_take (i := 18) (v := ?v18_20) rfl (by kernel_rfl) (by kernel_rfl) (by kernel_rfl) (fun _ _ _ h => h) (Or.inl ⟨by rfl, ?hy18_20⟩) (by assumption) ?rest18_20
  case hy18_20 => intro w hSw; (try dsimp only at hSw); go_simp; (try with_reducible rfl)
  try simp only [Act.put, List.getElem_toArray, List.getElem_cons_succ, List.getElem_cons_zero, List.setIfInBounds_toArray, List.set_cons_zero, List.set_cons_succ]
  refine wpAnyH_ready (rs := [17]) (by kernel_rfl) (by simp) ?_
  refine AllReadyH.cons rfl (fun K9 hK9 => ?_) AllReadyH.nil
  go_simp
  (refine (fullMask_impl _ x _ ((oq.below ywd (by omega)).rd reads_Q)).mono ?_)
  rintro e we ⟨rfl, ywe⟩
  replace ywe : Below w4.heap.size w4 we := on ywd ywe
  have swe := ywe.size
  refine hK9.out _ _ ⟨(ywe.cell (p := ⟨w1.heap.size, 0, none⟩) (by simp only []; omega)).trans X_0, (ywe.cell (p := ⟨w1.heap.size, 1, none⟩) (by simp only []; omega)).trans X_1⟩ (fun hHeld => ?_)
  clear hK9 K9
  try simp only [Act.put, List.getElem_toArray, List.getElem_cons_succ, List.getElem_cons_zero, List.setIfInBounds_toArray, List.set_cons_zero, List.set_cons_succ]
  refine wpAnyH_ready (rs := [19]) (by kernel_rfl) (by simp) ?_
  refine AllReadyH.cons rfl (fun K9 hK9 => ?_) AllReadyH.nil
  go_simp
  (refine (fullMask_spec _ x _ ((oq.below ywe (by omega)).rd reads_Q)).mono ?_)
  rintro e wf ⟨rfl, ywf⟩
  replace ywf : Below w4.heap.size w4 wf := on ywe ywf
  have swf := ywf.size
  refine hK9.out _ _ ⟨(ywf.cell (p := ⟨w1.heap.size, 0, none⟩) (by simp only []; omega)).trans X_0, (ywf.cell (p := ⟨w1.heap.size, 1, none⟩) (by simp only []; omega)).trans X_1⟩ (fun hHeld => ?_)
  clear hK9 K9
  try simp only [Act.put, List.getElem_toArray, List.getElem_cons_succ, List.getElem_cons_zero, List.setIfInBounds_toArray, List.set_cons_zero, List.set_cons_succ]
  refine wpAnyH_take (i := 20) (v := ?v20_21) rfl (by kernel_rfl) (by kernel_rfl) (by kernel_rfl) (fun _ _ _ h => h) (Or.inl ⟨by rfl, ?hy20_21⟩) (by assumption) ?rest20_21
  case hy20_21 => intro w hSw; (try dsimp only at hSw); go_simp; (try with_reducible rfl)
  try simp only [Act.put, List.getElem_toArray, List.getElem_cons_succ, List.getElem_cons_zero, List.setIfInBounds_toArray, List.set_cons_zero, List.set_cons_succ]
  refine wpAnyH_take (i := 21) (v := ?v21_22) rfl (by kernel_rfl) (by kernel_rfl) (by kernel_rfl) (fun _ _ _ h => h) (Or.inl ⟨by rfl, ?hy21_22⟩) (by assumption) ?rest21_22
  case hy21_22 => intro w hSw; (try dsimp only at hSw); go_simp; (try with_reducible rfl)
  try simp only [Act.put, List.getElem_toArray, List.getElem_cons_succ, List.getElem_cons_zero, List.setIfInBounds_toArray, List.set_cons_zero, List.set_cons_succ]
  refine wpAnyH_done (by kernel_rfl) ?_ _
  refine NoPanic.normal ?_
  clear ywa ywb ywc ywd ywe oS iS hdr swa swb swc swd swe
  have s23 := ywf.size
  have hb23 := on hb5 ywf
  replace oq := oq.below ywf (by omega)
  replace X_0 := (ywf.cell (p := ⟨w1.heap.size, 0, none⟩) (by simp only []; omega)).trans X_0
  replace X_1 := (ywf.cell (p := ⟨w1.heap.size, 1, none⟩) (by simp only []; omega)).trans X_1
  replace oL := oL.below ywf (by omega)
  replace iL := iL.below ywf
  go_wp2_with fail
  obtain ⟨wl, rfl⟩ : ∃ W, W = wf := ⟨_, rfl⟩
  go_loopw [6] (fun i wr => ∃ j : Nat, j ≤ L.length ∧ i = .int .i64 (j : Int) ∧ Below wl.heap.size wl wr) (fun i _ => L.length - (intOf i).toNat)
  case atStart => exact ⟨0, Nat.zero_le _, rfl, Below.refl _ _⟩
  case round =>
    obtain ⟨j, hj, rfl, hdr0⟩ := hrel
    obtain ⟨wo, rfl⟩ : ∃ W, W = wr := ⟨_, rfl⟩
    have so := hdr0.size
    by_cases hlt : j < L.length
    · have x0 := (hdr0.cell (p := ⟨w1.heap.size, 0, none⟩) (by simp only []; omega)).trans X_0
      have x1 := (hdr0.cell (p := ⟨w1.heap.size, 1, none⟩) (by simp only []; omega)).trans X_1
      obtain ⟨b1, o1, y0, rfl, c1, hy0, _, _⟩ := iL.get hlt
      have hym : y0 ∈ L := by have := has_yes (by omega) hy0.out; simpa [has] using this
      obtain ⟨K, y, hk, hy, h1, h2, h3, hcn, hmem, hsh⟩ := HSP.out y0 hym
      subst hk
      subst hy
      have hH : has L ((K : Int) - (y : Int)) = true := by simpa [has] using hmem
      have hw : IntKind.i64.wrap ((K : Int) - (y : Int)) = (K : Int) - (y : Int) := IntWalk.i64_in _ (by omega)
      have c2 := (hdr0.cell (p := ⟨b1, o1 + j, none⟩) (cell_lt c1)).trans c1
      have hb1 := cell_lt c1
      simp only [] at hb1
      clear HSP HSS HL hym hy0
      have hji : (j : Int) < (L.length : Int) := by omega
      go_wp2_with fail
      have hdr : Below wo.heap.size wo wo.drew := (Below.refl _ _).drew
      have hd0 : Below wl.heap.size wl wo.drew := on hdr0 hdr
      refine wp_region_noPanic ?_
      refine wp_region_held_drew (S := (fun W => W.cell? ⟨w1.heap.size, 0, none⟩ = some (.int .i64 c0) ∧ W.cell? ⟨w1.heap.size, 1, none⟩ = some (.slice qb qn qc) ∧ W.cell? ⟨b1, o1 + j, none⟩ = some (.int .i64 (y : Int)))) (by kernel_rfl) ?hS24 (fun hHeld => ?_)
      case hS24 => exact ⟨x0, x1, c2⟩
      refine wpAnyH_take (i := 0) (v := ?v0_25) rfl (by kernel_rfl) (by kernel_rfl) (by kernel_rfl) (fun _ _ _ h => h) (Or.inl ⟨by rfl, ?hy0_25⟩) (by assumption) ?rest0_25
      case hy0_25 => intro w hSw; (try dsimp only at hSw); go_simp; (try with_reducible rfl)
      try simp only [Act.put, List.getElem_toArray, List.getElem_cons_succ, List.getElem_cons_zero, List.setIfInBounds_toArray, List.set_cons_zero, List.set_cons_succ]
      refine wpAnyH_take (i := 1) (v := ?v1_26) rfl (by kernel_rfl) (by kernel_rfl) (by kernel_rfl) (fun _ _ _ h => h) (Or.inl ⟨by rfl, ?hy1_26⟩) (by assumption) ?rest1_26
      case hy1_26 => intro w hSw; (try dsimp only at hSw); go_simp; (try with_reducible rfl)
      try simp only [Act.put, List.getElem_toArray, List.getElem_cons_succ, List.getElem_cons_zero, List.setIfInBounds_toArray, List.set_cons_zero, List.set_cons_succ]
      refine wpAnyH_take (i := 2) (v := ?v2_27) rfl (by kernel_rfl) (by kernel_rfl) (by kernel_rfl) (fun _ _ _ h => h) (Or.inl ⟨by rfl, ?hy2_27⟩) (by assumption) ?rest2_27
      case hy2_27 => intro w hSw; (try dsimp only at hSw); go_simp; (try with_reducible rfl)
      try simp only [Act.put, List.getElem_toArray, List.getElem_cons_succ, List.getElem_cons_zero, List.setIfInBounds_toArray, List.set_cons_zero, List.set_cons_succ]
      refine wpAnyH_take (i := 3) (v := ?v3_28) rfl (by kernel_rfl) (by kernel_rfl) (by kernel_rfl) (fun _ _ _ h => h) (Or.inl ⟨by rfl, ?hy3_28⟩) (by assumption) ?rest3_28
      case hy3_28 => intro w hSw; (try dsimp only at hSw); go_simp; (try with_reducible rfl)
      try simp only [Act.put, List.getElem_toArray, List.getElem_cons_succ, List.getElem_cons_zero, List.setIfInBounds_toArray, List.set_cons_zero, List.set_cons_succ]
      refine wpAnyH_take (i := 4) (v := ?v4_29) rfl (by kernel_rfl) (by kernel_rfl) (by kernel_rfl) (fun _ _ _ h => h) (Or.inl ⟨by rfl, ?hy4_29⟩) (by assumption) ?rest4_29
      case hy4_29 => intro w hSw; (try dsimp only at hSw); go_simp; (try with_reducible rfl)
      try simp only [Act.put, List.getElem_toArray, List.getElem_cons_succ, List.getElem_cons_zero, List.setIfInBounds_toArray, List.set_cons_zero, List.set_cons_succ]
      refine wpAnyH_take (i := 5) (v := ?v5_30) rfl (by kernel_rfl) (by kernel_rfl) (by kernel_rfl) (fun _ _ _ h => h) (Or.inl ⟨by rfl, ?hy5_30⟩) (by assumption) ?rest5_30
      case hy5_30 => intro w hSw; (try dsimp only at hSw); go_simp; (try with_reducible rfl)
      try simp only [Act.put, List.getElem_toArray, List.getElem_cons_succ, List.getElem_cons_zero, List.setIfInBounds_toArray, List.set_cons_zero, List.set_cons_succ]
      refine wpAnyH_take (i := 6) (v := ?v6_31) rfl (by kernel_rfl) (by kernel_rfl) (by kernel_rfl) (fun _ _ _ h => h) (Or.inl ⟨by rfl, ?hy6_31⟩) (by assumption) ?rest6_31
      case hy6_31 => intro w hSw; (try dsimp only at hSw); go_simp; (try with_reducible rfl)
      try simp only [Act.put, List.getElem_toArray, List.getElem_cons_succ, List.getElem_cons_zero, List.setIfInBounds_toArray, List.set_cons_zero, List.set_cons_succ]
      refine wpAnyH_ready (rs := [7]) (by kernel_rfl) (by simp) ?_
      refine AllReadyH.cons rfl (fun K9 hK9 => ?_) AllReadyH.nil
      go_simp
      (refine (lawHas_any _ _ _ L _ _ (iL.below hd0)).mono ?_)
      rintro e wa ⟨rfl, e9⟩
      rw [hH]
      have ywa : Below wo.heap.size wo wa := by rw [← e9]; exact hdr
      clear e9
      have swa := ywa.size
      have ywl : Below wl.heap.size wl wa := on hdr0 ywa
      refine hK9.out _ _ ⟨(ywa.cell (p := ⟨w1.heap.size, 0, none⟩) (by simp only []; omega)).trans x0, (ywa.cell (p := ⟨w1.heap.size, 1, none⟩) (by simp only []; omega)).trans x1, (ywa.cell (p := ⟨b1, o1 + j, none⟩) (by simp only []; omega)).trans c2⟩ (fun hHeld => ?_)
      clear hK9 K9
      try simp only [Act.put, List.getElem_toArray, List.getElem_cons_succ, List.getElem_cons_zero, List.setIfInBounds_toArray, List.set_cons_zero, List.set_cons_succ]
      refine wpAnyH_take (i := 8) (v := ?v8_32) rfl (by kernel_rfl) (by kernel_rfl) (by kernel_rfl) (fun _ _ _ h => h) (Or.inl ⟨by rfl, ?hy8_32⟩) (by assumption) ?rest8_32
      case hy8_32 => intro w hSw; (try dsimp only at hSw); go_simp; (try with_reducible rfl)
      try simp only [Act.put, List.getElem_toArray, List.getElem_cons_succ, List.getElem_cons_zero, List.setIfInBounds_toArray, List.set_cons_zero, List.set_cons_succ]
      refine wpAnyH_take (i := 9) (v := ?v9_33) rfl (by kernel_rfl) (by kernel_rfl) (by kernel_rfl) (fun _ _ _ h => h) (Or.inl ⟨by rfl, ?hy9_33⟩) (by assumption) ?rest9_33
      case hy9_33 => intro w hSw; (try dsimp only at hSw); go_simp; (try with_reducible rfl)
      try simp only [Act.put, List.getElem_toArray, List.getElem_cons_succ, List.getElem_cons_zero, List.setIfInBounds_toArray, List.set_cons_zero, List.set_cons_succ]
      refine wpAnyH_take (i := 10) (v := ?v10_34) rfl (by kernel_rfl) (by kernel_rfl) (by kernel_rfl) (fun _ _ _ h => h) (Or.inl ⟨by rfl, ?hy10_34⟩) (by assumption) ?rest10_34
      case hy10_34 => intro w hSw; (try dsimp only at hSw); go_simp; (try with_reducible rfl)
      try simp only [Act.put, List.getElem_toArray, List.getElem_cons_succ, List.getElem_cons_zero, List.setIfInBounds_toArray, List.set_cons_zero, List.set_cons_succ]
      refine wpAnyH_take (i := 11) (v := ?v11_35) rfl (by kernel_rfl) (by kernel_rfl) (by kernel_rfl) (fun _ _ _ h => h) (Or.inl ⟨by rfl, ?hy11_35⟩) (by assumption) ?rest11_35
      case hy11_35 => intro w hSw; (try dsimp only at hSw); go_simp; (try with_reducible rfl)
      try simp only [Act.put, List.getElem_toArray, List.getElem_cons_succ, List.getElem_cons_zero, List.setIfInBounds_toArray, List.set_cons_zero, List.set_cons_succ]
      refine wpAnyH_take (i := 12) (v := ?v12_36) rfl (by kernel_rfl) (by kernel_rfl) (by kernel_rfl) (fun _ _ _ h => h) (Or.inl ⟨by rfl, ?hy12_36⟩) (by assumption) ?rest12_36
      case hy12_36 => intro w hSw; (try dsimp only at hSw); go_simp; (try with_reducible rfl)
      try simp only [Act.put, List.getElem_toArray, List.getElem_cons_succ, List.getElem_cons_zero, List.setIfInBounds_toArray, List.set_cons_zero, List.set_cons_succ]
      refine wpAnyH_take (i := 13) (v := ?v13_37) rfl (by kernel_rfl) (by kernel_rfl) (by kernel_rfl) (fun _ _ _ h => h) (Or.inl ⟨by rfl, ?hy13_37⟩) (by assumption) ?rest13_37
      case hy13_37 => intro w hSw; (try dsimp only at hSw); go_simp; (try with_reducible rfl)
      try simp only [Act.put, List.getElem_toArray, List.getElem_cons_succ, List.getElem_cons_zero, List.setIfInBounds_toArray, List.set_cons_zero, List.set_cons_succ]
      refine wpAnyH_take (i := 14) (v := ?v14_38) rfl (by kernel_rfl) (by kernel_rfl) (by kernel_rfl) (fun _ _ _ h => h) (Or.inl ⟨by rfl, ?hy14_38⟩) (by assumption) ?rest14_38
      case hy14_38 => intro w hSw; (try dsimp only at hSw); go_simp; (try with_reducible rfl)
      try simp only [Act.put, List.getElem_toArray, List.getElem_cons_succ, List.getElem_cons_zero, List.setIfInBounds_toArray, List.set_cons_zero, List.set_cons_succ]
      refine wpAnyH_ready (rs := [15]) (by kernel_rfl) (by simp) ?_
      refine AllReadyH.cons rfl (fun K9 hK9 => ?_) AllReadyH.nil
      go_simp
      (refine (isConn_impl _ x (y : Int) _ ((oq.below ywl (by omega)).rd reads_Q)).mono ?_)
      rintro e wb ⟨rfl, ywb⟩
      rw [hcn]
      have swb := ywb.size
      replace ywb : Below wo.heap.size wo wb := on ywa ywb
      have ywm : Below wl.heap.size wl wb := on hdr0 ywb
      refine hK9.out _ _ ⟨(ywb.cell (p := ⟨w1.heap.size, 0, none⟩) (by simp only []; omega)).trans x0, (ywb.cell (p := ⟨w1.heap.size, 1, none⟩) (by simp only []; omega)).trans x1, (ywb.cell (p := ⟨b1, o1 + j, none⟩) (by simp only []; omega)).trans c2⟩ (fun hHeld => ?_)
      clear hK9 K9
      try simp only [Act.put, List.getElem_toArray, List.getElem_cons_succ, List.getElem_cons_zero, List.setIfInBounds_toArray, List.set_cons_zero, List.set_cons_succ]
      refine wpAnyH_take (i := 16) (v := ?v16_39) rfl (by kernel_rfl) (by kernel_rfl) (by kernel_rfl) (fun _ _ _ h => h) (Or.inl ⟨by rfl, ?hy16_39⟩) (by assumption) ?rest16_39
      case hy16_39 => intro w hSw; (try dsimp only at hSw); go_simp; (try with_reducible rfl)
      try simp only [Act.put, List.getElem_toArray, List.getElem_cons_succ, List.getElem_cons_zero, List.setIfInBounds_toArray, List.set_cons_zero, List.set_cons_succ]
      refine wpAnyH_take (i := 17) (v := ?v17_40) rfl (by kernel_rfl) (by kernel_rfl) (by kernel_rfl) (fun _ _ _ h => h) (Or.inl ⟨by rfl, ?hy17_40⟩) (by assumption) ?rest17_40
      case hy17_40 => intro w hSw; (try dsimp only at hSw); go_simp; (try with_reducible rfl)
      try simp only [Act.put, List.getElem_toArray, List.getElem_cons_succ, List.getElem_cons_zero, List.setIfInBounds_toArray, List.set_cons_zero, List.set_cons_succ]
      refine wpAnyH_take (i := 18) (v := ?v18_41) rfl (by kernel_rfl) (by kernel_rfl) (by kernel_rfl) (fun _ _ _ h => h) (Or.inl ⟨by rfl, ?hy18_41⟩) (by assumption) ?rest18_41
      case hy18_41 => intro w hSw; (try dsimp only at hSw); go_simp; (try with_reducible rfl)
      try simp only [Act.put, List.getElem_toArray, List.getElem_cons_succ, List.getElem_cons_zero, List.setIfInBounds_toArray, List.set_cons_zero, List.set_cons_succ]
      refine wpAnyH_take (i := 19) (v := ?v19_42) rfl (by kernel_rfl) (by kernel_rfl) (by kernel_rfl) (fun _ _ _ h => h) (Or.inl ⟨by rfl, ?hy19_42⟩) (by assumption) ?rest19_42
      case hy19_42 => intro w hSw; (try dsimp only at hSw); go_simp; (try with_reducible rfl)
      try simp only [Act.put, List.getElem_toArray, List.getElem_cons_succ, List.getElem_cons_zero, List.setIfInBounds_toArray, List.set_cons_zero, List.set_cons_succ]
      refine wpAnyH_take (i := 20) (v := ?v20_43) rfl (by kernel_rfl) (by kernel_rfl) (by kernel_rfl) (fun _ _ _ h => h) (Or.inl ⟨by rfl, ?hy20_43⟩) (by assumption) ?rest20_43
      case hy20_43 => intro w hSw; (try dsimp only at hSw); go_simp; (try with_reducible rfl)
      try simp only [Act.put, List.getElem_toArray, List.getElem_cons_succ, List.getElem_cons_zero, List.setIfInBounds_toArray, List.set_cons_zero, List.set_cons_succ]
      refine wpAnyH_take (i := 21) (v := ?v21_44) rfl (by kernel_rfl) (by kernel_rfl) (by kernel_rfl) (fun _ _ _ h => h) (Or.inl ⟨by rfl, ?hy21_44⟩) (by assumption) ?rest21_44
      case hy21_44 => intro w hSw; (try dsimp only at hSw); go_simp; (try with_reducible rfl)
      try simp only [Act.put, List.getElem_toArray, List.getElem_cons_succ, List.getElem_cons_zero, List.setIfInBounds_toArray, List.set_cons_zero, List.set_cons_succ]
      refine wpAnyH_take (i := 22) (v := ?v22_45) rfl (by kernel_rfl) (by kernel_rfl) (by kernel_rfl) (fun _ _ _ h => h) (Or.inl ⟨by rfl, ?hy22_45⟩) (by assumption) ?rest22_45
      case hy22_45 => intro w hSw; (try dsimp only at hSw); go_simp; (try with_reducible rfl)
      try simp only [Act.put, List.getElem_toArray, List.getElem_cons_succ, List.getElem_cons_zero, List.setIfInBounds_toArray, List.set_cons_zero, List.set_cons_succ]
      refine wpAnyH_take (i := 23) (v := ?v23_46) rfl (by kernel_rfl) (by kernel_rfl) (by kernel_rfl) (fun _ _ _ h => h) (Or.inl ⟨by rfl, ?hy23_46⟩) (by assumption) ?rest23_46
      case hy23_46 => intro w hSw; (try dsimp only at hSw); go_simp; (try with_reducible rfl)
      try simp only [Act.put, List.getElem_toArray, List.getElem_cons_succ, List.getElem_cons_zero, List.setIfInBounds_toArray, List.set_cons_zero, List.set_cons_succ]
      refine wpAnyH_take (i := 24) (v := ?v24_47) rfl (by kernel_rfl) (by kernel_rfl) (by kernel_rfl) (fun _ _ _ h => h) (Or.inl ⟨by rfl, ?hy24_47⟩) (by assumption) ?rest24_47
      case hy24_47 => intro w hSw; (try dsimp only at hSw); go_simp; (try with_reducible rfl)
      try simp only [Act.put, List.getElem_toArray, List.getElem_cons_succ, List.getElem_cons_zero, List.setIfInBounds_toArray, List.set_cons_zero, List.set_cons_succ]
      refine wpAnyH_take (i := 25) (v := ?v25_48) rfl (by kernel_rfl) (by kernel_rfl) (by kernel_rfl) (fun _ _ _ h => h) (Or.inl ⟨by rfl, ?hy25_48⟩) (by assumption) ?rest25_48
      case hy25_48 => intro w hSw; (try dsimp only at hSw); go_simp; (try with_reducible rfl)
      try simp only [Act.put, List.getElem_toArray, List.getElem_cons_succ, List.getElem_cons_zero, List.setIfInBounds_toArray, List.set_cons_zero, List.set_cons_succ]
      refine wpAnyH_take (i := 26) (v := ?v26_49) rfl (by kernel_rfl) (by kernel_rfl) (by kernel_rfl) (fun _ _ _ h => h) (Or.inl ⟨by rfl, ?hy26_49⟩) (by assumption) ?rest26_49
      case hy26_49 => intro w hSw; (try dsimp only at hSw); go_simp; (try with_reducible rfl)
      try simp only [Act.put, List.getElem_toArray, List.getElem_cons_succ, List.getElem_cons_zero, List.setIfInBounds_toArray, List.set_cons_zero, List.set_cons_succ]
      refine wpAnyH_take (i := 27) (v := ?v27_50) rfl (by kernel_rfl) (by kernel_rfl) (by kernel_rfl) (fun _ _ _ h => h) (Or.inl ⟨by rfl, ?hy27_50⟩) (by assumption) ?rest27_50
      case hy27_50 => intro w hSw; (try dsimp only at hSw); go_simp; (try with_reducible rfl)
      try simp only [Act.put, List.getElem_toArray, List.getElem_cons_succ, List.getElem_cons_zero, List.setIfInBounds_toArray, List.set_cons_zero, List.set_cons_succ]
      refine wpAnyH_take (i := 28) (v := ?v28_51) rfl (by kernel_rfl) (by kernel_rfl) (by kernel_rfl) (fun _ _ _ h => h) (Or.inl ⟨by rfl, ?hy28_51⟩) (by assumption) ?rest28_51
      case hy28_51 => intro w hSw; (try dsimp only at hSw); go_simp; (try with_reducible rfl)
      try simp only [Act.put, List.getElem_toArray, List.getElem_cons_succ, List.getElem_cons_zero, List.setIfInBounds_toArray, List.set_cons_zero, List.set_cons_succ]
      refine wpAnyH_take (i := 29) (v := ?v29_52) rfl (by kernel_rfl) (by kernel_rfl) (by kernel_rfl) (fun _ _ _ h => h) (Or.inl ⟨by rfl, ?hy29_52⟩) (by assumption) ?rest29_52
      case hy29_52 => intro w hSw; (try dsimp only at hSw); go_simp; (try with_reducible rfl)
      try simp only [Act.put, List.getElem_toArray, List.getElem_cons_succ, List.getElem_cons_zero, List.setIfInBounds_toArray, List.set_cons_zero, List.set_cons_succ]
      refine wpAnyH_ready (rs := [30]) (by kernel_rfl) (by simp) ?_
      refine AllReadyH.cons rfl (fun K9 hK9 => ?_) AllReadyH.nil
      go_simp
      (refine (shared_spec _ x (y : Int) ((K : Int) - (y : Int)) _ ((oq.below ywm (by omega)).rd reads_Q)).mono ?_)
      rintro e wc ⟨u3, rfl, oF, ywc⟩
      obtain ⟨fb, fn, fc, rfl⟩ := oI_form9 oF
      have hfn : fn ≠ 0 := by rw [(rI_open9 (oF.rd reads_I)).1]; exact hsh
      have hfe : (fn == 0) = false := by rw [beq_eq_false_iff_ne]; exact hfn
      have hfi : ((fn : Int) == 0) = false := by rw [beq_eq_false_iff_ne]; omega
      have swc := ywc.size
      replace ywc : Below wo.heap.size wo wc := on ywb ywc
      have ywn : Below wl.heap.size wl wc := on hdr0 ywc
      clear oF
      refine hK9.out _ _ ⟨(ywc.cell (p := ⟨w1.heap.size, 0, none⟩) (by simp only []; omega)).trans x0, (ywc.cell (p := ⟨w1.heap.size, 1, none⟩) (by simp only []; omega)).trans x1, (ywc.cell (p := ⟨b1, o1 + j, none⟩) (by simp only []; omega)).trans c2⟩ (fun hHeld => ?_)
      clear hK9 K9
      try simp only [Act.put, List.getElem_toArray, List.getElem_cons_succ, List.getElem_cons_zero, List.setIfInBounds_toArray, List.set_cons_zero, List.set_cons_succ]
      refine wpAnyH_take (i := 31) (v := ?v31_53) rfl (by kernel_rfl) (by kernel_rfl) (by kernel_rfl) (fun _ _ _ h => h) (Or.inl ⟨by rfl, ?hy31_53⟩) (by assumption) ?rest31_53
      case hy31_53 => intro w hSw; (try dsimp only at hSw); go_simp; (try with_reducible rfl)
      try simp only [Act.put, List.getElem_toArray, List.getElem_cons_succ, List.getElem_cons_zero, List.setIfInBounds_toArray, List.set_cons_zero, List.set_cons_succ]
      refine wpAnyH_take (i := 32) (v := ?v32_54) rfl (by kernel_rfl) (by kernel_rfl) (by kernel_rfl) (fun _ _ _ h => h) (Or.inl ⟨by rfl, ?hy32_54⟩) (by assumption) ?rest32_54
      case hy32_54 => intro w hSw; (try dsimp only at hSw); go_simp; (try with_reducible rfl)
      try simp only [Act.put, List.getElem_toArray, List.getElem_cons_succ, List.getElem_cons_zero, List.setIfInBounds_toArray, List.set_cons_zero, List.set_cons_succ]
      refine wpAnyH_take (i := 33) (v := ?v33_55) rfl (by kernel_rfl) (by kernel_rfl) (by kernel_rfl) (fun _ _ _ h => h) (Or.inl ⟨by rfl, ?hy33_55⟩) (by assumption) ?rest33_55
      case hy33_55 => intro w hSw; (try dsimp only at hSw); go_simp; (try with_reducible rfl)
      try simp only [Act.put, List.getElem_toArray, List.getElem_cons_succ, List.getElem_cons_zero, List.setIfInBounds_toArray, List.set_cons_zero, List.set_cons_succ]
      refine wpAnyH_done (by kernel_rfl) ?_ _
      refine NoPanic.normal ?_
      clear x0 x1 c2 c1 hsh hcn hmem hH
      go_wp2_with fail
      go_roundw
      case rel => exact ⟨j + 1, by omega, by go_num, ywn⟩
      case measure => simp [intOf]; omega
    · obtain rfl : j = L.length := by omega
      have s56 := hdr0.size
      have hb56 := on hb23 hdr0
      replace oq := oq.below hdr0 (by omega)
      replace X_0 := (hdr0.cell (p := ⟨w1.heap.size, 0, none⟩) (by simp only []; omega)).trans X_0
      replace X_1 := (hdr0.cell (p := ⟨w1.heap.size, 1, none⟩) (by simp only []; omega)).trans X_1
      replace oL := oL.below hdr0 (by omega)
      replace iL := iL.below hdr0
      clear HSP
      go_wp2_with fail
      refine (connMasks_impl _ x _ (oq.rd reads_Q)).mono ?_
      rintro e w57 ⟨u4, rfl, oC, z57⟩
      have s58 := z57.size
      have hb58 := on hb56 z57
      replace oq := oq.below z57 (by omega)
      replace X_0 := (z57.cell (p := ⟨w1.heap.size, 0, none⟩) (by simp only []; omega)).trans X_0
      replace X_1 := (z57.cell (p := ⟨w1.heap.size, 1, none⟩) (by simp only []; omega)).trans X_1
      replace oL := oL.below z57 (by omega)
      replace iL := iL.below z57
      obtain ⟨eb, en, ec, rfl⟩ := oI_form9 oC
      have HHC := Lib.hid (has_conn x k)
      obtain ⟨C, hC⟩ : ∃ q, connMasks x = q := ⟨_, rfl⟩
      rw [hC] at oC HHC
      have HC9 := Lib.hid hC
      clear hC
      obtain ⟨hen, _, _, iC⟩ := rI_open9 (oC.rd reads_I)
      subst hen
      go_wp2_with fail
      have hdr : Below w57.heap.size w57 w57.drew := (Below.refl _ _).drew
      refine wp_region_noPanic ?_
      refine wp_region_held_drew (S := (fun W => W.cell? ⟨w1.heap.size, 0, none⟩ = some (.int .i64 c0) ∧ W.cell? ⟨w1.heap.size, 1, none⟩ = some (.slice qb qn qc))) (by kernel_rfl) ?hS59 (fun hHeld => ?_)
      case hS59 => exact ⟨X_0, X_1⟩
      refine wpAnyH_take (i := 0) (v := ?v0_60) rfl (by kernel_rfl) (by kernel_rfl) (by kernel_rfl) (fun _ _ _ h => h) (Or.inl ⟨by rfl, ?hy0_60⟩) (by assumption) ?rest0_60
      case hy0_60 => intro w hSw; (try dsimp only at hSw); go_simp; (try with_reducible rfl)
      try simp only [Act.put, List.getElem_toArray, List.getElem_cons_succ, List.getElem_cons_zero, List.setIfInBounds_toArray, List.set_cons_zero, List.set_cons_succ]
      refine wpAnyH_take (i := 1) (v := ?v1_61) rfl (by kernel_rfl) (by kernel_rfl) (by kernel_rfl) (fun _ _ _ h => h) (Or.inl ⟨by rfl, ?hy1_61⟩) (by assumption) ?rest1_61
      case hy1_61 => intro w hSw; (try dsimp only at hSw); go_simp; (try with_reducible rfl)
      try simp only [Act.put, List.getElem_toArray, List.getElem_cons_succ, List.getElem_cons_zero, List.setIfInBounds_toArray, List.set_cons_zero, List.set_cons_succ]
      refine wpAnyH_ready (rs := [2]) (by kernel_rfl) (by simp) ?_
      refine AllReadyH.cons rfl (fun K9 hK9 => ?_) AllReadyH.nil
      go_simp
      (refine (connMasks_spec _ x _ ((oq.below hdr (by omega)).rd reads_Q)).mono ?_)
      rintro e wa ⟨u5, rfl, oS, ywa⟩
      replace ywa : Below w57.heap.size w57 wa := on hdr ywa
      have swa := ywa.size
      rw [HC9.out] at oS
      obtain ⟨sb, sn, sc, rfl⟩ := oI_form9 oS
      obtain ⟨hsn, _, _, iS⟩ := rI_open9 (oS.rd reads_I)
      subst hsn
      refine hK9.out _ _ ⟨(ywa.cell (p := ⟨w1.heap.size, 0, none⟩) (by simp only []; omega)).trans X_0, (ywa.cell (p := ⟨w1.heap.size, 1, none⟩) (by simp only []; omega)).trans X_1⟩ (fun hHeld => ?_)
      clear hK9 K9
      try simp only [Act.put, List.getElem_toArray, List.getElem_cons_succ, List.getElem_cons_zero, List.setIfInBounds_toArray, List.set_cons_zero, List.set_cons_succ]
      refine wpAnyH_ready (rs := [3]) (by kernel_rfl) (by simp) ?_
      refine AllReadyH.cons rfl (fun K9 hK9 => ?_) AllReadyH.nil
      go_simp
      (refine (sameInts_eq _ _ _ _ _ C _ (iC.below ywa) iS).mono ?_)
      rintro e wb ⟨rfl, ywb⟩
      replace ywb : Below w57.heap.size w57 wb := on ywa (ywb.below _)
      have swb := ywb.size
      refine hK9.out _ _ ⟨(ywb.cell (p := ⟨w1.heap.size, 0, none⟩) (by simp only []; omega)).trans X_0, (ywb.cell (p := ⟨w1.heap.size, 1, none⟩) (by simp only []; omega)).trans X_1⟩ (fun hHeld => ?_)
      clear hK9 K9
      try simp only [Act.put, List.getElem_toArray, List.getElem_cons_succ, List.getElem_cons_zero, List.setIfInBounds_toArray, List.set_cons_zero, List.set_cons_succ]
      refine wpAnyH_take (i := 4) (v := ?v4_62) rfl (by kernel_rfl) (by kernel_rfl) (by kernel_rfl) (fun _ _ _ h => h) (Or.inl ⟨by rfl, ?hy4_62⟩) (by assumption) ?rest4_62
      case hy4_62 => intro w hSw; (try dsimp only at hSw); go_simp; (try with_reducible rfl)
      try simp only [Act.put, List.getElem_toArray, List.getElem_cons_succ, List.getElem_cons_zero, List.setIfInBounds_toArray, List.set_cons_zero, List.set_cons_succ]
      refine wpAnyH_take (i := 5) (v := ?v5_63) rfl (by kernel_rfl) (by kernel_rfl) (by kernel_rfl) (fun _ _ _ h => h) (Or.inl ⟨by rfl, ?hy5_63⟩) (by assumption) ?rest5_63
      case hy5_63 => intro w hSw; (try dsimp only at hSw); go_simp; (try with_reducible rfl)
      try simp only [Act.put, List.getElem_toArray, List.getElem_cons_succ, List.getElem_cons_zero, List.setIfInBounds_toArray, List.set_cons_zero, List.set_cons_succ]
      refine wpAnyH_take (i := 6) (v := ?v6_64) rfl (by kernel_rfl) (by kernel_rfl) (by kernel_rfl) (fun _ _ _ h => h) (Or.inl ⟨by rfl, ?hy6_64⟩) (by assumption) ?rest6_64
      case hy6_64 => intro w hSw; (try dsimp only at hSw); go_simp; (try with_reducible rfl)
      try simp only [Act.put, List.getElem_toArray, List.getElem_cons_succ, List.getElem_cons_zero, List.setIfInBounds_toArray, List.set_cons_zero, List.set_cons_succ]
      refine wpAnyH_take (i := 7) (v := ?v7_65) rfl (by kernel_rfl) (by kernel_rfl) (by kernel_rfl) (fun _ _ _ h => h) (Or.inl ⟨by rfl, ?hy7_65⟩) (by assumption) ?rest7_65
      case hy7_65 => intro w hSw; (try dsimp only at hSw); go_simp; (try with_reducible rfl)
      try simp only [Act.put, List.getElem_toArray, List.getElem_cons_succ, List.getElem_cons_zero, List.setIfInBounds_toArray, List.set_cons_zero, List.set_cons_succ]
      refine wpAnyH_take (i := 9) (v := ?v9_66) rfl (by kernel_rfl) (by kernel_rfl) (by kernel_rfl) (fun _ _ _ h => h) (Or.inl ⟨by rfl, ?hy9_66⟩) (by assumption) ?rest9_66
      case hy9_66 => intro w hSw; (try dsimp only at hSw); go_simp; (try with_reducible rfl)
      try simp only [Act.put, List.getElem_toArray, List.getElem_cons_succ, List.getElem_cons_zero, List.setIfInBounds_toArray, List.set_cons_zero, List.set_cons_succ]
      refine wpAnyH_take (i := 10) (v := ?v10_67) rfl (by kernel_rfl) (by kernel_rfl) (by kernel_rfl) (fun _ _ _ h => h) (Or.inl ⟨by rfl, ?hy10_67⟩) (by assumption) ?rest10_67
      case hy10_67 => intro w hSw; (try dsimp only at hSw); go_simp; (try with_reducible rfl)
      try simp only [Act.put, List.getElem_toArray, List.getElem_cons_succ, List.getElem_cons_zero, List.setIfInBounds_toArray, List.set_cons_zero, List.set_cons_succ]
      refine wpAnyH_ready (rs := [8]) (by kernel_rfl) (by simp) ?_
      refine AllReadyH.cons rfl (fun K9 hK9 => ?_) AllReadyH.nil
      go_simp
      (refine (lawHas_any _ _ _ C _ _ (iC.below ywb)).mono ?_)
      rintro e wh ⟨rfl, e9⟩
      rw [HHC.out]
      have ywh : Below w57.heap.size w57 wh := by rw [← e9]; exact ywb
      clear e9
      have swh := ywh.size
      refine hK9.out _ _ ⟨(ywh.cell (p := ⟨w1.heap.size, 0, none⟩) (by simp only []; omega)).trans X_0, (ywh.cell (p := ⟨w1.heap.size, 1, none⟩) (by simp only []; omega)).trans X_1⟩ (fun hHeld => ?_)
      clear hK9 K9
      try simp only [Act.put, List.getElem_toArray, List.getElem_cons_succ, List.getElem_cons_zero, List.setIfInBounds_toArray, List.set_cons_zero, List.set_cons_succ]
      refine wpAnyH_ready (rs := [11]) (by kernel_rfl) (by simp) ?_
      refine AllReadyH.cons rfl (fun K9 hK9 => ?_) AllReadyH.nil
      go_simp
      (refine (isConn_spec _ x k _ ((oq.below ywh (by omega)).rd reads_Q)).mono ?_)
      rintro e wd ⟨rfl, ywd⟩
      replace ywd : Below w57.heap.size w57 wd := on ywh ywd
      have swd := ywd.size
      refine hK9.out _ _ ⟨(ywd.cell (p := ⟨w1.heap.size, 0, none⟩) (by simp only []; omega)).trans X_0, (ywd.cell (p := ⟨w1.heap.size, 1, none⟩) (by simp only []; omega)).trans X_1⟩ (fun hHeld => ?_)
      clear hK9 K9
      try simp only [Act.put, List.getElem_toArray, List.getElem_cons_succ, List.getElem_cons_zero, List.setIfInBounds_toArray, List.set_cons_zero, List.set_cons_succ]
      refine wpAnyH_take (i := 12) (v := ?v12_68) rfl (by kernel_rfl) (by kernel_rfl) (by kernel_rfl) (fun _ _ _ h => h) (Or.inl ⟨by rfl, ?hy12_68⟩) (by assumption) ?rest12_68
      case hy12_68 => intro w hSw; (try dsimp only at hSw); go_simp; (try with_reducible rfl)
      try simp only [Act.put, List.getElem_toArray, List.getElem_cons_succ, List.getElem_cons_zero, List.setIfInBounds_toArray, List.set_cons_zero, List.set_cons_succ]
      refine wpAnyH_take (i := 13) (v := ?v13_69) rfl (by kernel_rfl) (by kernel_rfl) (by kernel_rfl) (fun _ _ _ h => h) (Or.inl ⟨by rfl, ?hy13_69⟩) (by assumption) ?rest13_69
      case hy13_69 => intro w hSw; (try dsimp only at hSw); go_simp; (try with_reducible rfl)
      try simp only [Act.put, List.getElem_toArray, List.getElem_cons_succ, List.getElem_cons_zero, List.setIfInBounds_toArray, List.set_cons_zero, List.set_cons_succ]
      refine wpAnyH_done (by kernel_rfl) ?_ _
      refine NoPanic.normal ?_
      clear ywa ywb ywh oS iS hdr swa swb swh HHC HC9
      have s70 := ywd.size
      have hb70 := on hb58 ywd
      replace oq := oq.below ywd (by omega)
      replace X_0 := (ywd.cell (p := ⟨w1.heap.size, 0, none⟩) (by simp only []; omega)).trans X_0
      replace X_1 := (ywd.cell (p := ⟨w1.heap.size, 1, none⟩) (by simp only []; omega)).trans X_1
      replace oL := oL.below ywd (by omega)
      replace iL := iL.below ywd
      replace oC := oC.below ywd (by omega)
      replace iC := iC.below ywd
      go_wp2_with fail
      go_wp2_with fail
      refine (nearMask_impl _ x k _ (oq.rd reads_Q)).mono ?_
      rintro e w71 ⟨rfl, z71⟩
      have s72 := z71.size
      have hb72 := on hb70 z71
      replace oq := oq.below z71 (by omega)
      replace X_0 := (z71.cell (p := ⟨w1.heap.size, 0, none⟩) (by simp only []; omega)).trans X_0
      replace X_1 := (z71.cell (p := ⟨w1.heap.size, 1, none⟩) (by simp only []; omega)).trans X_1
      replace oL := oL.below z71 (by omega)
      replace iL := iL.below z71
      replace oC := oC.below z71 (by omega)
      replace iC := iC.below z71
      go_wp2_with fail
      refine (maskAtoms_impl _ _ (near_i64 x k)).mono ?_
      rintro e w73 ⟨mb, mn, mc, rfl, oM, z73⟩
      have s74 := z73.size
      have hb74 := on hb72 z73
      replace oq := oq.below z73 (by omega)
      replace X_0 := (z73.cell (p := ⟨w1.heap.size, 0, none⟩) (by simp only []; omega)).trans X_0
      replace X_1 := (z73.cell (p := ⟨w1.heap.size, 1, none⟩) (by simp only []; omega)).trans X_1
      replace oL := oL.below z73 (by omega)
      replace iL := iL.below z73
      replace oC := oC.below z73 (by omega)
      replace iC := iC.below z73
      go_wp2_with fail
      have HNL := Lib.hid (fun (a : Int) (hc : isConn x k = true) (ha : a ∈ maskAtoms (nearMask x k)) => near_law hc ha)
      obtain ⟨M, hM⟩ : ∃ q, maskAtoms (nearMask x k) = q := ⟨_, rfl⟩
      rw [hM] at oM HNL
      have iM := oM.ints
      have hml := oM.len
      clear hM oM
      obtain rfl : mn = M.length := by omega
      clear hml
      have hms := iM.small
      obtain ⟨wm, rfl⟩ : ∃ W, W = w73 := ⟨_, rfl⟩
      go_loopw [10] (fun i wr => ∃ j : Nat, j ≤ M.length ∧ i = .int .i64 (j : Int) ∧ Below wm.heap.size wm wr) (fun i _ => M.length - (intOf i).toNat)
      case atStart => exact ⟨0, Nat.zero_le _, rfl, Below.refl _ _⟩
      case round =>
        obtain ⟨j, hj, rfl, hdr0⟩ := hrel
        obtain ⟨wo, rfl⟩ : ∃ W, W = wr := ⟨_, rfl⟩
        have so := hdr0.size
        by_cases hlt : j < M.length
        · have x0 := (hdr0.cell (p := ⟨w1.heap.size, 0, none⟩) (by simp only []; omega)).trans X_0
          have x1 := (hdr0.cell (p := ⟨w1.heap.size, 1, none⟩) (by simp only []; omega)).trans X_1
          have hdr : Below wo.heap.size wo wo.drew := (Below.refl _ _).drew
          have hd0 : Below wm.heap.size wm wo.drew := on hdr0 hdr
          have hji : (j : Int) < (M.length : Int) := by omega
          by_cases hc : isConn x k = true
          · obtain ⟨b1, o1, a0, rfl, c1, hy0, _, _⟩ := iM.get hlt
            have ham : a0 ∈ M := by have := has_yes (by omega) hy0.out; simpa [has] using this
            obtain ⟨K, v, hk, ha, h16, hv4, hcc⟩ := HNL.out a0 hc ham
            subst hk
            subst ha
            have c2 := (hdr0.cell (p := ⟨b1, o1 + j, none⟩) (cell_lt c1)).trans c1
            have hb1 := cell_lt c1
            simp only [] at hb1
            have hor := or_int K h16 v hv4
            have HCX := Lib.hid hc
            clear HNL HSS ham hy0 HL hc
            go_wp2_with fail
            refine wp_region_noPanic ?_
            refine wp_region_held_drew (S := (fun W => W.cell? ⟨w1.heap.size, 0, none⟩ = some (.int .i64 c0) ∧ W.cell? ⟨w1.heap.size, 1, none⟩ = some (.slice qb qn qc) ∧ W.cell? ⟨b1, o1 + j, none⟩ = some (.int .i64 (v : Int)))) (by kernel_rfl) ?hS75 (fun hHeld => ?_)
            case hS75 => exact ⟨x0, x1, c2⟩
            refine wpAnyH_take (i := 0) (v := ?v0_76) rfl (by kernel_rfl) (by kernel_rfl) (by kernel_rfl) (fun _ _ _ h => h) (Or.inl ⟨by rfl, ?hy0_76⟩) (by assumption) ?rest0_76
            case hy0_76 => intro w hSw; (try dsimp only at hSw); go_simp; (try with_reducible rfl)
            try simp only [Act.put, List.getElem_toArray, List.getElem_cons_succ, List.getElem_cons_zero, List.setIfInBounds_toArray, List.set_cons_zero, List.set_cons_succ]
            refine wpAnyH_take (i := 1) (v := ?v1_77) rfl (by kernel_rfl) (by kernel_rfl) (by kernel_rfl) (fun _ _ _ h => h) (Or.inl ⟨by rfl, ?hy1_77⟩) (by assumption) ?rest1_77
            case hy1_77 => intro w hSw; (try dsimp only at hSw); go_simp; (try with_reducible rfl)
            try simp only [Act.put, List.getElem_toArray, List.getElem_cons_succ, List.getElem_cons_zero, List.setIfInBounds_toArray, List.set_cons_zero, List.set_cons_succ]
            refine wpAnyH_ready (rs := [2]) (by kernel_rfl) (by simp) ?_
            refine AllReadyH.cons rfl (fun K9 hK9 => ?_) AllReadyH.nil
            go_simp
            (refine (isConn_spec _ x (K : Int) _ ((oq.below hd0 (by omega)).rd reads_Q)).mono ?_)
            rintro e wa ⟨he, ywa⟩
            rw [HCX.out] at he
            subst he
            have swa := ywa.size
            replace ywa : Below wo.heap.size wo wa := on hdr ywa
            have ywl : Below wm.heap.size wm wa := on hdr0 ywa
            refine hK9.out _ _ ⟨(ywa.cell (p := ⟨w1.heap.size, 0, none⟩) (by simp only []; omega)).trans x0, (ywa.cell (p := ⟨w1.heap.size, 1, none⟩) (by simp only []; omega)).trans x1, (ywa.cell (p := ⟨b1, o1 + j, none⟩) (by simp only []; omega)).trans c2⟩ (fun hHeld => ?_)
            clear hK9 K9
            try simp only [Act.put, List.getElem_toArray, List.getElem_cons_succ, List.getElem_cons_zero, List.setIfInBounds_toArray, List.set_cons_zero, List.set_cons_succ]
            refine wpAnyH_take (i := 3) (v := ?v3_78) rfl (by kernel_rfl) (by kernel_rfl) (by kernel_rfl) (fun _ _ _ h => h) (Or.inl ⟨by rfl, ?hy3_78⟩) (by assumption) ?rest3_78
            case hy3_78 => intro w hSw; (try dsimp only at hSw); go_simp; (try with_reducible rfl)
            try simp only [Act.put, List.getElem_toArray, List.getElem_cons_succ, List.getElem_cons_zero, List.setIfInBounds_toArray, List.set_cons_zero, List.set_cons_succ]
            refine wpAnyH_take (i := 4) (v := ?v4_79) rfl (by kernel_rfl) (by kernel_rfl) (by kernel_rfl) (fun _ _ _ h => h) (Or.inl ⟨by rfl, ?hy4_79⟩) (by assumption) ?rest4_79
            case hy4_79 => intro w hSw; (try dsimp only at hSw); go_simp; (try with_reducible rfl)
            try simp only [Act.put, List.getElem_toArray, List.getElem_cons_succ, List.getElem_cons_zero, List.setIfInBounds_toArray, List.set_cons_zero, List.set_cons_succ]
            refine wpAnyH_take (i := 5) (v := ?v5_80) rfl (by kernel_rfl) (by kernel_rfl) (by kernel_rfl) (fun _ _ _ h => h) (Or.inl ⟨by rfl, ?hy5_80⟩) (by assumption) ?rest5_80
            case hy5_80 => intro w hSw; (try dsimp only at hSw); go_simp; (try with_reducible rfl)
            try simp only [Act.put, List.getElem_toArray, List.getElem_cons_succ, List.getElem_cons_zero, List.setIfInBounds_toArray, List.set_cons_zero, List.set_cons_succ]
            refine wpAnyH_take (i := 6) (v := ?v6_81) rfl (by kernel_rfl) (by kernel_rfl) (by kernel_rfl) (fun _ _ _ h => h) (Or.inl ⟨by rfl, ?hy6_81⟩) (by assumption) ?rest6_81
            case hy6_81 => intro w hSw; (try dsimp only at hSw); go_simp; (try with_reducible rfl)
            try simp only [Act.put, List.getElem_toArray, List.getElem_cons_succ, List.getElem_cons_zero, List.setIfInBounds_toArray, List.set_cons_zero, List.set_cons_succ]
            refine wpAnyH_take (i := 7) (v := ?v7_82) rfl (by kernel_rfl) (by kernel_rfl) (by kernel_rfl) (fun _ _ _ h => h) (Or.inl ⟨by rfl, ?hy7_82⟩) (by assumption) ?rest7_82
            case hy7_82 => intro w hSw; (try dsimp only at hSw); go_simp; (try with_reducible rfl)
            try simp only [Act.put, List.getElem_toArray, List.getElem_cons_succ, List.getElem_cons_zero, List.setIfInBounds_toArray, List.set_cons_zero, List.set_cons_succ]
            refine wpAnyH_take (i := 8) (v := ?v8_83) rfl (by kernel_rfl) (by kernel_rfl) (by kernel_rfl) (fun _ _ _ h => h) (Or.inl ⟨by rfl, ?hy8_83⟩) (by assumption) ?rest8_83
            case hy8_83 => intro w hSw; (try dsimp only at hSw); go_simp; (try with_reducible rfl)
            try simp only [Act.put, List.getElem_toArray, List.getElem_cons_succ, List.getElem_cons_zero, List.setIfInBounds_toArray, List.set_cons_zero, List.set_cons_succ]
            refine wpAnyH_take (i := 9) (v := ?v9_84) rfl (by kernel_rfl) (by kernel_rfl) (by kernel_rfl) (fun _ _ _ h => h) (Or.inl ⟨by rfl, ?hy9_84⟩) (by assumption) ?rest9_84
            case hy9_84 => intro w hSw; (try dsimp only at hSw); go_simp; (try with_reducible rfl)
            try simp only [Act.put, List.getElem_toArray, List.getElem_cons_succ, List.getElem_cons_zero, List.setIfInBounds_toArray, List.set_cons_zero, List.set_cons_succ]
            refine wpAnyH_take (i := 10) (v := ?v10_85) rfl (by kernel_rfl) (by kernel_rfl) (by kernel_rfl) (fun _ _ _ h => h) (Or.inl ⟨by rfl, ?hy10_85⟩) (by assumption) ?rest10_85
            case hy10_85 => intro w hSw; (try dsimp only at hSw); go_simp; (try with_reducible rfl)
            try simp only [Act.put, List.getElem_toArray, List.getElem_cons_succ, List.getElem_cons_zero, List.setIfInBounds_toArray, List.set_cons_zero, List.set_cons_succ]
            refine wpAnyH_take (i := 11) (v := ?v11_86) rfl (by kernel_rfl) (by kernel_rfl) (by kernel_rfl) (fun _ _ _ h => h) (Or.inl ⟨by rfl, ?hy11_86⟩) (by assumption) ?rest11_86
            case hy11_86 => intro w hSw; (try dsimp only at hSw); go_simp; (try with_reducible rfl)
            try simp only [Act.put, List.getElem_toArray, List.getElem_cons_succ, List.getElem_cons_zero, List.setIfInBounds_toArray, List.set_cons_zero, List.set_cons_succ]
            refine wpAnyH_ready (rs := [12]) (by kernel_rfl) (by simp) ?_
            refine AllReadyH.cons rfl (fun K9 hK9 => ?_) AllReadyH.nil
            go_simp
            (refine (isConn_impl _ x ((K ||| 2 ^ v : Nat) : Int) _ ((oq.below ywl (by omega)).rd reads_Q)).mono ?_)
            rintro e wb ⟨he, ywb⟩
            rw [hcc] at he
            subst he
            have swb := ywb.size
            replace ywb : Below wo.heap.size wo wb := on ywa ywb
            have ywm : Below wm.heap.size wm wb := on hdr0 ywb
            refine hK9.out _ _ ⟨(ywb.cell (p := ⟨w1.heap.size, 0, none⟩) (by simp only []; omega)).trans x0, (ywb.cell (p := ⟨w1.heap.size, 1, none⟩) (by simp only []; omega)).trans x1, (ywb.cell (p := ⟨b1, o1 + j, none⟩) (by simp only []; omega)).trans c2⟩ (fun hHeld => ?_)
            clear hK9 K9
            try simp only [Act.put, List.getElem_toArray, List.getElem_cons_succ, List.getElem_cons_zero, List.setIfInBounds_toArray, List.set_cons_zero, List.set_cons_succ]
            refine wpAnyH_take (i := 13) (v := ?v13_87) rfl (by kernel_rfl) (by kernel_rfl) (by kernel_rfl) (fun _ _ _ h => h) (Or.inl ⟨by rfl, ?hy13_87⟩) (by assumption) ?rest13_87
            case hy13_87 => intro w hSw; (try dsimp only at hSw); go_simp; (try with_reducible rfl)
            try simp only [Act.put, List.getElem_toArray, List.getElem_cons_succ, List.getElem_cons_zero, List.setIfInBounds_toArray, List.set_cons_zero, List.set_cons_succ]
            refine wpAnyH_take (i := 14) (v := ?v14_88) rfl (by kernel_rfl) (by kernel_rfl) (by kernel_rfl) (fun _ _ _ h => h) (Or.inl ⟨by rfl, ?hy14_88⟩) (by assumption) ?rest14_88
            case hy14_88 => intro w hSw; (try dsimp only at hSw); go_simp; (try with_reducible rfl)
            try simp only [Act.put, List.getElem_toArray, List.getElem_cons_succ, List.getElem_cons_zero, List.setIfInBounds_toArray, List.set_cons_zero, List.set_cons_succ]
            refine wpAnyH_done (by kernel_rfl) ?_ _
            refine NoPanic.normal ?_
            clear x0 x1 c1 c2
            go_wp2_with fail
            go_roundw
            case rel => exact ⟨j + 1, by omega, by go_num, ywm⟩
            case measure => simp [intOf]; omega
          · have HCX : Hid (isConn x k = false) := Lib.hid (by simpa using hc)
            clear hc
            go_wp2_with fail
            refine wp_region_noPanic ?_
            refine wp_region_held_drew (S := (fun W => W.cell? ⟨w1.heap.size, 0, none⟩ = some (.int .i64 c0) ∧ W.cell? ⟨w1.heap.size, 1, none⟩ = some (.slice qb qn qc))) (by kernel_rfl) ?hS89 (fun hHeld => ?_)
            case hS89 => exact ⟨x0, x1⟩
            refine wpAnyH_take (i := 0) (v := ?v0_90) rfl (by kernel_rfl) (by kernel_rfl) (by kernel_rfl) (fun _ _ _ h => h) (Or.inl ⟨by rfl, ?hy0_90⟩) (by assumption) ?rest0_90
            case hy0_90 => intro w hSw; (try dsimp only at hSw); go_simp; (try with_reducible rfl)
            try simp only [Act.put, List.getElem_toArray, List.getElem_cons_succ, List.getElem_cons_zero, List.setIfInBounds_toArray, List.set_cons_zero, List.set_cons_succ]
            refine wpAnyH_take (i := 1) (v := ?v1_91) rfl (by kernel_rfl) (by kernel_rfl) (by kernel_rfl) (fun _ _ _ h => h) (Or.inl ⟨by rfl, ?hy1_91⟩) (by assumption) ?rest1_91
            case hy1_91 => intro w hSw; (try dsimp only at hSw); go_simp; (try with_reducible rfl)
            try simp only [Act.put, List.getElem_toArray, List.getElem_cons_succ, List.getElem_cons_zero, List.setIfInBounds_toArray, List.set_cons_zero, List.set_cons_succ]
            refine wpAnyH_ready (rs := [2]) (by kernel_rfl) (by simp) ?_
            refine AllReadyH.cons rfl (fun K9 hK9 => ?_) AllReadyH.nil
            go_simp
            (refine (isConn_spec _ x k _ ((oq.below hd0 (by omega)).rd reads_Q)).mono ?_)
            rintro e wa ⟨he, ywa⟩
            rw [HCX.out] at he
            subst he
            have swa := ywa.size
            replace ywa : Below wo.heap.size wo wa := on hdr ywa
            have ywl : Below wm.heap.size wm wa := on hdr0 ywa
            refine hK9.out _ _ ⟨(ywa.cell (p := ⟨w1.heap.size, 0, none⟩) (by simp only []; omega)).trans x0, (ywa.cell (p := ⟨w1.heap.size, 1, none⟩) (by simp only []; omega)).trans x1⟩ (fun hHeld => ?_)
            clear hK9 K9
            try simp only [Act.put, List.getElem_toArray, List.getElem_cons_succ, List.getElem_cons_zero, List.setIfInBounds_toArray, List.set_cons_zero, List.set_cons_succ]
            refine wpAnyH_take (i := 3) (v := ?v3_92) rfl (by kernel_rfl) (by kernel_rfl) (by kernel_rfl) (fun _ _ _ h => h) (Or.inl ⟨by rfl, ?hy3_92⟩) (by assumption) ?rest3_92
            case hy3_92 => intro w hSw; (try dsimp only at hSw); go_simp; (try with_reducible rfl)
            try simp only [Act.put, List.getElem_toArray, List.getElem_cons_succ, List.getElem_cons_zero, List.setIfInBounds_toArray, List.set_cons_zero, List.set_cons_succ]
            refine wpAnyH_take (i := 4) (v := undef) rfl (by kernel_rfl) (by kernel_rfl) (by kernel_rfl) (fun _ _ _ h => h) (Or.inr ⟨by rfl, rfl⟩) (by assumption) ?_
            try simp only [Act.put, List.getElem_toArray, List.getElem_cons_succ, List.getElem_cons_zero, List.setIfInBounds_toArray, List.set_cons_zero, List.set_cons_succ]
            refine wpAnyH_take (i := 5) (v := undef) rfl (by kernel_rfl) (by kernel_rfl) (by kernel_rfl) (fun _ _ _ h => h) (Or.inr ⟨by rfl, rfl⟩) (by assumption) ?_
            try simp only [Act.put, List.getElem_toArray, List.getElem_cons_succ, List.getElem_cons_zero, List.setIfInBounds_toArray, List.set_cons_zero, List.set_cons_succ]
            refine wpAnyH_take (i := 6) (v := undef) rfl (by kernel_rfl) (by kernel_rfl) (by kernel_rfl) (fun _ _ _ h => h) (Or.inr ⟨by rfl, rfl⟩) (by assumption) ?_
            try simp only [Act.put, List.getElem_toArray, List.getElem_cons_succ, List.getElem_cons_zero, List.setIfInBounds_toArray, List.set_cons_zero, List.set_cons_succ]
            refine wpAnyH_take (i := 7) (v := undef) rfl (by kernel_rfl) (by kernel_rfl) (by kernel_rfl) (fun _ _ _ h => h) (Or.inr ⟨by rfl, rfl⟩) (by assumption) ?_
            try simp only [Act.put, List.getElem_toArray, List.getElem_cons_succ, List.getElem_cons_zero, List.setIfInBounds_toArray, List.set_cons_zero, List.set_cons_succ]
            refine wpAnyH_take (i := 8) (v := undef) rfl (by kernel_rfl) (by kernel_rfl) (by kernel_rfl) (fun _ _ _ h => h) (Or.inr ⟨by rfl, rfl⟩) (by assumption) ?_
            try simp only [Act.put, List.getElem_toArray, List.getElem_cons_succ, List.getElem_cons_zero, List.setIfInBounds_toArray, List.set_cons_zero, List.set_cons_succ]
            refine wpAnyH_take (i := 9) (v := undef) rfl (by kernel_rfl) (by kernel_rfl) (by kernel_rfl) (fun _ _ _ h => h) (Or.inr ⟨by rfl, rfl⟩) (by assumption) ?_
            try simp only [Act.put, List.getElem_toArray, List.getElem_cons_succ, List.getElem_cons_zero, List.setIfInBounds_toArray, List.set_cons_zero, List.set_cons_succ]
            refine wpAnyH_take (i := 10) (v := undef) rfl (by kernel_rfl) (by kernel_rfl) (by kernel_rfl) (fun _ _ _ h => h) (Or.inr ⟨by rfl, rfl⟩) (by assumption) ?_
            try simp only [Act.put, List.getElem_toArray, List.getElem_cons_succ, List.getElem_cons_zero, List.setIfInBounds_toArray, List.set_cons_zero, List.set_cons_succ]
            refine wpAnyH_take (i := 11) (v := undef) rfl (by kernel_rfl) (by kernel_rfl) (by kernel_rfl) (fun _ _ _ h => h) (Or.inr ⟨by rfl, rfl⟩) (by assumption) ?_
            try simp only [Act.put, List.getElem_toArray, List.getElem_cons_succ, List.getElem_cons_zero, List.setIfInBounds_toArray, List.set_cons_zero, List.set_cons_succ]
            refine wpAnyH_take (i := 12) (v := undef) rfl (by kernel_rfl) (by kernel_rfl) (by kernel_rfl) (fun _ _ _ h => h) (Or.inr ⟨by rfl, rfl⟩) (by assumption) ?_
            try simp only [Act.put, List.getElem_toArray, List.getElem_cons_succ, List.getElem_cons_zero, List.setIfInBounds_toArray, List.set_cons_zero, List.set_cons_succ]
            refine wpAnyH_take (i := 13) (v := undef) rfl (by kernel_rfl) (by kernel_rfl) (by kernel_rfl) (fun _ _ _ h => h) (Or.inr ⟨by rfl, rfl⟩) (by assumption) ?_
            try simp only [Act.put, List.getElem_toArray, List.getElem_cons_succ, List.getElem_cons_zero, List.setIfInBounds_toArray, List.set_cons_zero, List.set_cons_succ]
            refine wpAnyH_take (i := 14) (v := ?v14_93) rfl (by kernel_rfl) (by kernel_rfl) (by kernel_rfl) (fun _ _ _ h => h) (Or.inl ⟨by rfl, ?hy14_93⟩) (by assumption) ?rest14_93
            case hy14_93 => intro w hSw; (try dsimp only at hSw); go_simp; (try with_reducible rfl)
            try simp only [Act.put, List.getElem_toArray, List.getElem_cons_succ, List.getElem_cons_zero, List.setIfInBounds_toArray, List.set_cons_zero, List.set_cons_succ]
            refine wpAnyH_done (by kernel_rfl) ?_ _
            refine NoPanic.normal ?_
            clear x0 x1
            go_wp2_with fail
            go_roundw
            case rel => exact ⟨j + 1, by omega, by go_num, ywl⟩
            case measure => simp [intOf]; omega
        · obtain rfl : j = M.length := by omega
          have s94 := hdr0.size
          have hb94 := on hb74 hdr0
          replace oq := oq.below hdr0 (by omega)
          replace X_0 := (hdr0.cell (p := ⟨w1.heap.size, 0, none⟩) (by simp only []; omega)).trans X_0
          replace X_1 := (hdr0.cell (p := ⟨w1.heap.size, 1, none⟩) (by simp only []; omega)).trans X_1
          replace oL := oL.below hdr0 (by omega)
          replace iL := iL.below hdr0
          replace oC := oC.below hdr0 (by omega)
          replace iC := iC.below hdr0
          replace iM := iM.below hdr0
          clear HNL
          by_cases hc : isConn x k = true
          · obtain ⟨K, hk, hK0, hK16, hsp⟩ := HSS.out hc
            subst hk
            have HCX := Lib.hid hc
            have HSQ := Lib.hid hsp
            clear hc hsp HSS HL
            go_wp2_with fail
            refine (nearMask_spec _ x _ _ (oq.rd reads_Q)).mono ?_
            rintro e w95 ⟨rfl, z95⟩
            have s96 := z95.size
            have hb96 := on hb94 z95
            replace oq := oq.below z95 (by omega)
            replace X_0 := (z95.cell (p := ⟨w1.heap.size, 0, none⟩) (by simp only []; omega)).trans X_0
            replace X_1 := (z95.cell (p := ⟨w1.heap.size, 1, none⟩) (by simp only []; omega)).trans X_1
            replace oL := oL.below z95 (by omega)
            replace iL := iL.below z95
            replace oC := oC.below z95 (by omega)
            replace iC := iC.below z95
            replace iM := iM.below z95
            go_wp2_with fail
            refine (isConn_spec _ x _ _ (oq.rd reads_Q)).mono ?_
            rintro e w97 ⟨he, z97⟩
            have s98 := z97.size
            have hb98 := on hb96 z97
            replace oq := oq.below z97 (by omega)
            replace X_0 := (z97.cell (p := ⟨w1.heap.size, 0, none⟩) (by simp only []; omega)).trans X_0
            replace X_1 := (z97.cell (p := ⟨w1.heap.size, 1, none⟩) (by simp only []; omega)).trans X_1
            replace oL := oL.below z97 (by omega)
            replace iL := iL.below z97
            replace oC := oC.below z97 (by omega)
            replace iC := iC.below z97
            replace iM := iM.below z97
            rw [HCX.out] at he
            subst he
            go_wp2_with fail
            refine (single_any K _ hK0 hK16).mono ?_
            rintro e w' ⟨rfl, rfl⟩
            by_cases hs : K &&& (K - 1) = 0
            · have hs2 : decide (K &&& (K - 1) = 0) = true := by simpa using hs
              rw [hs2]
              clear hs hs2 HSQ
              go_wp2_with fail
              go_ret
              exact ⟨rfl, hb98⟩
            · have hs2 : decide (K &&& (K - 1) = 0) = false := by simpa using hs
              rw [hs2]
              have hl : 0 < L.length := HSQ.out.resolve_left hs
              have hl2 : (0 : Int) < (L.length : Int) := by omega
              clear hs hs2 HSQ
              go_wp2_with fail
              go_ret
              exact ⟨rfl, hb98⟩
          · have HCX : Hid (isConn x k = false) := Lib.hid (by simpa using hc)
            clear hc HSS HL
            go_wp2_with fail
            refine (nearMask_spec _ x _ _ (oq.rd reads_Q)).mono ?_
            rintro e w99 ⟨rfl, z99⟩
            have s100 := z99.size
            have hb100 := on hb94 z99
            replace oq := oq.below z99 (by omega)
            replace X_0 := (z99.cell (p := ⟨w1.heap.size, 0, none⟩) (by simp only []; omega)).trans X_0
            replace X_1 := (z99.cell (p := ⟨w1.heap.size, 1, none⟩) (by simp only []; omega)).trans X_1
            replace oL := oL.below z99 (by omega)
            replace iL := iL.below z99
            replace oC := oC.below z99 (by omega)
            replace iC := iC.below z99
            replace iM := iM.below z99
            go_wp2_with fail
            refine (isConn_spec _ x _ _ (oq.rd reads_Q)).mono ?_
            rintro e w101 ⟨he, z101⟩
            have s102 := z101.size
            have hb102 := on hb100 z101
            replace oq := oq.below z101 (by omega)
            replace X_0 := (z101.cell (p := ⟨w1.heap.size, 0, none⟩) (by simp only []; omega)).trans X_0
            replace X_1 := (z101.cell (p := ⟨w1.heap.size, 1, none⟩) (by simp only []; omega)).trans X_1
            replace oL := oL.below z101 (by omega)
            replace iL := iL.below z101
            replace oC := oC.below z101 (by omega)
            replace iC := iC.below z101
            replace iM := iM.below z101
            rw [HCX.out] at he
            subst he
            go_wp2_with fail
            go_ret
            exact ⟨rfl, hb102⟩

end Go.Proofs.Ytpgfkjcekhifiaa
