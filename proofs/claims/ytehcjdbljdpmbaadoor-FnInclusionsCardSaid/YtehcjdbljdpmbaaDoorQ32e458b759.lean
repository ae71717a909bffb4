/- Texts joined for one claim: LIncl. -/
import Derived.Test.YtehcjdbljdpmbaaDoorQ97516f0ca5
import Derived.Test.YtehcjdbljdpmbaaDoorQ273e5327c8
import Derived.Test.YtehcjdbljdpmbaaDoorQ3f10ca8cb7
import Derived.Test.YtehcjdbljdpmbaaDoorQ778a275728
import Derived.Test.YtehcjdbljdpmbaaDoorQ302eaa3e8a
import Derived.Deep.RegionHeld3

/- Contracts: the reference's draws (11): a database and an inclusion. The walk of the law FnInclusions. -/
namespace Go.Proofs.YtehcjdbljdpmbaaDoor
open Go.RowKit
set_option linter.unusedVariables false
set_option linter.unusedSimpArgs false
set_option synthInstance.maxSize 2000
set_option synthInstance.maxHeartbeats 400000

set_option maxRecDepth 100000 in
set_option maxHeartbeats 4000000 in
theorem drawMissing_any (w : World) (ba : Option Addr) (bn bc : Nat) (hn : bn ≤ 2000000) (h : Bytes w w.heap.size ba bn) :
    Calls Tryd.prog 27 #[.slice ba bn bc] w fun e w' => DrawnIn w w' e := by
  have hb0 : Below w.heap.size w w := Below.refl _ _
  go_enter Tryd.func27, Tryd.ntmps27
  obtain ⟨w1, hw1⟩ : ∃ W, W = w.alloc (.cells #[.slice none 0 0] 49) := ⟨_, rfl⟩
  have z1 : Below w.heap.size w w1 := by rw [hw1]; exact (Below.refl _ _).alloc (Nat.le_refl _) _
  have s1 : w1.heap.size = w.heap.size + 1 := by rw [hw1]; simp
  have hb1 := on hb0 z1
  have R_0 : w1.cell? ⟨w.heap.size, 0, none⟩ = some (.slice none 0 0) := by rw [hw1]; exact box_cell (Below.refl _ _) rfl
  have R_f0 : w1.frozen? ⟨w.heap.size, 0, none⟩ = false := by rw [hw1]; exact box_frozen (Below.refl _ _)
  have raw1_R_0 := R_0
  have raw1_R_f0 := R_f0
  rw [hw1] at raw1_R_0 raw1_R_f0
  obtain ⟨w2, hw2⟩ : ∃ W, W = w1.alloc (.cells #[.string (ByteArray.mk #[]), .int .i64 0, .string (ByteArray.mk #[]), .int .i64 0] 51) := ⟨_, rfl⟩
  have z2 : Below w1.heap.size w1 w2 := by rw [hw2]; exact (Below.refl _ _).alloc (Nat.le_refl _) _
  have s2 : w2.heap.size = w1.heap.size + 1 := by rw [hw2]; simp
  have hb2 := on hb1 z2
  replace R_0 := (z2.cell (p := ⟨w.heap.size, 0, none⟩) (by simp only []; omega)).trans R_0
  replace R_f0 := (z2.frozen (p := ⟨w.heap.size, 0, none⟩) (by simp only []; omega)).trans R_f0
  have e2 : w1.heap.size = w.heap.size + 1 := by omega
  have Q_0 : w2.cell? ⟨w1.heap.size, 0, none⟩ = some (.string (ByteArray.mk #[])) := by rw [hw2]; exact box_cell (Below.refl _ _) rfl
  have Q_1 : w2.cell? ⟨w1.heap.size, 1, none⟩ = some (.int .i64 0) := by rw [hw2]; exact box_cell (Below.refl _ _) rfl
  have Q_2 : w2.cell? ⟨w1.heap.size, 2, none⟩ = some (.string (ByteArray.mk #[])) := by rw [hw2]; exact box_cell (Below.refl _ _) rfl
  have Q_3 : w2.cell? ⟨w1.heap.size, 3, none⟩ = some (.int .i64 0) := by rw [hw2]; exact box_cell (Below.refl _ _) rfl
  rw [e2] at Q_0 Q_1 Q_2 Q_3
  have Q_f0 : w2.frozen? ⟨w1.heap.size, 0, none⟩ = false := by rw [hw2]; exact box_frozen (Below.refl _ _)
  have Q_f1 : w2.frozen? ⟨w1.heap.size, 1, none⟩ = false := by rw [hw2]; exact box_frozen (Below.refl _ _)
  have Q_f2 : w2.frozen? ⟨w1.heap.size, 2, none⟩ = false := by rw [hw2]; exact box_frozen (Below.refl _ _)
  have Q_f3 : w2.frozen? ⟨w1.heap.size, 3, none⟩ = false := by rw [hw2]; exact box_frozen (Below.refl _ _)
  rw [e2] at Q_f0 Q_f1 Q_f2 Q_f3
  have raw2_R_0 := R_0
  have raw2_R_f0 := R_f0
  have raw2_Q_0 := Q_0
  have raw2_Q_1 := Q_1
  have raw2_Q_2 := Q_2
  have raw2_Q_3 := Q_3
  have raw2_Q_f0 := Q_f0
  have raw2_Q_f1 := Q_f1
  have raw2_Q_f2 := Q_f2
  have raw2_Q_f3 := Q_f3
  rw [hw2, hw1] at raw2_R_0 raw2_R_f0 raw2_Q_0 raw2_Q_1 raw2_Q_2 raw2_Q_3 raw2_Q_f0 raw2_Q_f1 raw2_Q_f2 raw2_Q_f3
  have HBY := Lib.hid (h.at' hb2)
  clear h
  go_wp2_with fail
  rw [← hw1]
  rw [← hw2]
  clear hw2 hw1
  clear raw1_R_0 raw1_R_f0 raw2_R_0 raw2_R_f0 raw2_Q_0 raw2_Q_1 raw2_Q_2 raw2_Q_3 raw2_Q_f0 raw2_Q_f1 raw2_Q_f2 raw2_Q_f3
  obtain ⟨lo4, hlo4⟩ : ∃ q, q = w2.heap.size := ⟨_, rfl⟩
  refine (l12Both_any _ ba bn bc hn HBY.out).mono ?_
  rintro e w3 ⟨b, n, c, db, m1, c1, m2, c2, rfl, ho, hms, z3⟩
  have s4 := z3.size
  have hb4 := on hb2 z3
  replace R_0 := (z3.cell (p := ⟨w.heap.size, 0, none⟩) (by simp only []; omega)).trans R_0
  replace R_f0 := (z3.frozen (p := ⟨w.heap.size, 0, none⟩) (by simp only []; omega)).trans R_f0
  replace Q_0 := (z3.cell (p := ⟨w.heap.size + 1, 0, none⟩) (by simp only []; omega)).trans Q_0
  replace Q_1 := (z3.cell (p := ⟨w.heap.size + 1, 1, none⟩) (by simp only []; omega)).trans Q_1
  replace Q_2 := (z3.cell (p := ⟨w.heap.size + 1, 2, none⟩) (by simp only []; omega)).trans Q_2
  replace Q_3 := (z3.cell (p := ⟨w.heap.size + 1, 3, none⟩) (by simp only []; omega)).trans Q_3
  replace Q_f0 := (z3.frozen (p := ⟨w.heap.size + 1, 0, none⟩) (by simp only []; omega)).trans Q_f0
  replace Q_f1 := (z3.frozen (p := ⟨w.heap.size + 1, 1, none⟩) (by simp only []; omega)).trans Q_f1
  replace Q_f2 := (z3.frozen (p := ⟨w.heap.size + 1, 2, none⟩) (by simp only []; omega)).trans Q_f2
  replace Q_f3 := (z3.frozen (p := ⟨w.heap.size + 1, 3, none⟩) (by simp only []; omega)).trans Q_f3
  clear HBY
  rw [← hlo4] at ho
  obtain ⟨hi5, hhi5⟩ : ∃ q, q = w3.heap.size := ⟨_, rfl⟩
  rw [← hhi5] at ho
  have hlh : w.heap.size + 1 + 1 ≤ lo4 := by omega
  have hlh2 : lo4 ≤ hi5 := by omega
  obtain ⟨w5, hw5⟩ : ∃ W, W = w3.alloc (.cells #[.slice b n c] 49) := ⟨_, rfl⟩
  have z5 : Below w3.heap.size w3 w5 := by rw [hw5]; exact (Below.refl _ _).alloc (Nat.le_refl _) _
  have s5 : w5.heap.size = w3.heap.size + 1 := by rw [hw5]; simp
  have hb5 := on hb4 z5
  have old5_R_0 := R_0
  have old5_Q_0 := Q_0
  have old5_Q_1 := Q_1
  have old5_Q_2 := Q_2
  have old5_Q_3 := Q_3
  replace R_0 := (z5.cell (p := ⟨w.heap.size, 0, none⟩) (by simp only []; omega)).trans R_0
  replace R_f0 := (z5.frozen (p := ⟨w.heap.size, 0, none⟩) (by simp only []; omega)).trans R_f0
  replace Q_0 := (z5.cell (p := ⟨w.heap.size + 1, 0, none⟩) (by simp only []; omega)).trans Q_0
  replace Q_1 := (z5.cell (p := ⟨w.heap.size + 1, 1, none⟩) (by simp only []; omega)).trans Q_1
  replace Q_2 := (z5.cell (p := ⟨w.heap.size + 1, 2, none⟩) (by simp only []; omega)).trans Q_2
  replace Q_3 := (z5.cell (p := ⟨w.heap.size + 1, 3, none⟩) (by simp only []; omega)).trans Q_3
  replace Q_f0 := (z5.frozen (p := ⟨w.heap.size + 1, 0, none⟩) (by simp only []; omega)).trans Q_f0
  replace Q_f1 := (z5.frozen (p := ⟨w.heap.size + 1, 1, none⟩) (by simp only []; omega)).trans Q_f1
  replace Q_f2 := (z5.frozen (p := ⟨w.heap.size + 1, 2, none⟩) (by simp only []; omega)).trans Q_f2
  replace Q_f3 := (z5.frozen (p := ⟨w.heap.size + 1, 3, none⟩) (by simp only []; omega)).trans Q_f3
  replace ho := ho.below z5 (by omega)
  have X_0 : w5.cell? ⟨w3.heap.size, 0, none⟩ = some (.slice b n c) := by rw [hw5]; exact box_cell (Below.refl _ _) rfl
  have raw5_R_0 := R_0
  have raw5_R_f0 := R_f0
  have raw5_Q_0 := Q_0
  have raw5_Q_1 := Q_1
  have raw5_Q_2 := Q_2
  have raw5_Q_3 := Q_3
  have raw5_Q_f0 := Q_f0
  have raw5_Q_f1 := Q_f1
  have raw5_Q_f2 := Q_f2
  have raw5_Q_f3 := Q_f3
  have raw5_X_0 := X_0
  rw [hw5] at raw5_R_0 raw5_R_f0 raw5_Q_0 raw5_Q_1 raw5_Q_2 raw5_Q_3 raw5_Q_f0 raw5_Q_f1 raw5_Q_f2 raw5_Q_f3 raw5_X_0
  obtain ⟨w6, hw6⟩ : ∃ W, W = w5.alloc (.cells #[.string m1, .int .i64 c1, .string m2, .int .i64 c2] 51) := ⟨_, rfl⟩
  have z6 : Below w5.heap.size w5 w6 := by rw [hw6]; exact (Below.refl _ _).alloc (Nat.le_refl _) _
  have s6 : w6.heap.size = w5.heap.size + 1 := by rw [hw6]; simp
  have hb6 := on hb5 z6
  replace R_0 := (z6.cell (p := ⟨w.heap.size, 0, none⟩) (by simp only []; omega)).trans R_0
  replace R_f0 := (z6.frozen (p := ⟨w.heap.size, 0, none⟩) (by simp only []; omega)).trans R_f0
  replace Q_0 := (z6.cell (p := ⟨w.heap.size + 1, 0, none⟩) (by simp only []; omega)).trans Q_0
  replace Q_1 := (z6.cell (p := ⟨w.heap.size + 1, 1, none⟩) (by simp only []; omega)).trans Q_1
  replace Q_2 := (z6.cell (p := ⟨w.heap.size + 1, 2, none⟩) (by simp only []; omega)).trans Q_2
  replace Q_3 := (z6.cell (p := ⟨w.heap.size + 1, 3, none⟩) (by simp only []; omega)).trans Q_3
  replace Q_f0 := (z6.frozen (p := ⟨w.heap.size + 1, 0, none⟩) (by simp only []; omega)).trans Q_f0
  replace Q_f1 := (z6.frozen (p := ⟨w.heap.size + 1, 1, none⟩) (by simp only []; omega)).trans Q_f1
  replace Q_f2 := (z6.frozen (p := ⟨w.heap.size + 1, 2, none⟩) (by simp only []; omega)).trans Q_f2
  replace Q_f3 := (z6.frozen (p := ⟨w.heap.size + 1, 3, none⟩) (by simp only []; omega)).trans Q_f3
  replace ho := ho.below z6 (by omega)
  replace X_0 := (z6.cell (p := ⟨w3.heap.size, 0, none⟩) (by simp only []; omega)).trans X_0
  have e6 : w5.heap.size = w3.heap.size + 1 := by omega
  have Y_0 : w6.cell? ⟨w5.heap.size, 0, none⟩ = some (.string m1) := by rw [hw6]; exact box_cell (Below.refl _ _) rfl
  have Y_1 : w6.cell? ⟨w5.heap.size, 1, none⟩ = some (.int .i64 c1) := by rw [hw6]; exact box_cell (Below.refl _ _) rfl
  have Y_2 : w6.cell? ⟨w5.heap.size, 2, none⟩ = some (.string m2) := by rw [hw6]; exact box_cell (Below.refl _ _) rfl
  have Y_3 : w6.cell? ⟨w5.heap.size, 3, none⟩ = some (.int .i64 c2) := by rw [hw6]; exact box_cell (Below.refl _ _) rfl
  rw [e6] at Y_0 Y_1 Y_2 Y_3
  have raw6_R_0 := R_0
  have raw6_R_f0 := R_f0
  have raw6_Q_0 := Q_0
  have raw6_Q_1 := Q_1
  have raw6_Q_2 := Q_2
  have raw6_Q_3 := Q_3
  have raw6_Q_f0 := Q_f0
  have raw6_Q_f1 := Q_f1
  have raw6_Q_f2 := Q_f2
  have raw6_Q_f3 := Q_f3
  have raw6_X_0 := X_0
  have raw6_Y_0 := Y_0
  have raw6_Y_1 := Y_1
  have raw6_Y_2 := Y_2
  have raw6_Y_3 := Y_3
  rw [hw6, hw5] at raw6_R_0 raw6_R_f0 raw6_Q_0 raw6_Q_1 raw6_Q_2 raw6_Q_3 raw6_Q_f0 raw6_Q_f1 raw6_Q_f2 raw6_Q_f3 raw6_X_0 raw6_Y_0 raw6_Y_1 raw6_Y_2 raw6_Y_3
  go_wp2_with fail
  rw [← hw5]
  rw [← hw6]
  clear hw6 hw5
  clear old5_R_0 old5_Q_0 old5_Q_1 old5_Q_2 old5_Q_3 raw5_R_0 raw5_R_f0 raw5_Q_0 raw5_Q_1 raw5_Q_2 raw5_Q_3 raw5_Q_f0 raw5_Q_f1 raw5_Q_f2 raw5_Q_f3 raw5_X_0 raw6_R_0 raw6_R_f0 raw6_Q_0 raw6_Q_1 raw6_Q_2 raw6_Q_3 raw6_Q_f0 raw6_Q_f1 raw6_Q_f2 raw6_Q_f3 raw6_X_0 raw6_Y_0 raw6_Y_1 raw6_Y_2 raw6_Y_3
  obtain ⟨wA, hwA⟩ : ∃ W, W = w6.drew := ⟨_, rfl⟩
  have hdr : Below w6.heap.size w6 wA := by rw [hwA]; exact (Below.refl _ _).drew
  refine wp_region_noPanic ?_
  refine wp_region_held_drew (S := (fun W => W.cell? ⟨w3.heap.size, 0, none⟩ = some (.slice b n c) ∧ W.cell? ⟨w3.heap.size + 1, 0, none⟩ = some (.string m1) ∧ W.cell? ⟨w3.heap.size + 1, 1, none⟩ = some (.int .i64 c1) ∧ W.cell? ⟨w3.heap.size + 1, 2, none⟩ = some (.string m2) ∧ W.cell? ⟨w3.heap.size + 1, 3, none⟩ = some (.int .i64 c2))) (by kernel_rfl) ?hS7 (fun hHeld => ?_)
  case hS7 => exact ⟨X_0, Y_0, Y_1, Y_2, Y_3⟩
  refine wpAnyH_take (i := 0) (v := ?v0_8) rfl (by kernel_rfl) (by kernel_rfl) (by kernel_rfl) (fun _ _ _ h => h) (Or.inl ⟨by rfl, ?hy0_8⟩) (by assumption) ?rest0_8
  case hy0_8 => intro w hSw; (try dsimp only at hSw); go_simp; (try with_reducible rfl)
  try simp only [Act.put, List.getElem_toArray, List.getElem_cons_succ, List.getElem_cons_zero, List.setIfInBounds_toArray, List.set_cons_zero, List.set_cons_succ]
  refine wpAnyH_take (i := 1) (v := ?v1_9) rfl (by kernel_rfl) (by kernel_rfl) (by kernel_rfl) (fun _ _ _ h => h) (Or.inl ⟨by rfl, ?hy1_9⟩) (by assumption) ?rest1_9
  case hy1_9 => intro w hSw; (try dsimp only at hSw); go_simp; (try with_reducible rfl)
  try simp only [Act.put, List.getElem_toArray, List.getElem_cons_succ, List.getElem_cons_zero, List.setIfInBounds_toArray, List.set_cons_zero, List.set_cons_succ]
  have hbA := on hb6 hdr
  have sA := hdr.size
  have hoA := ho.below hdr (by omega)
  have aX_0 := (hdr.cell (p := ⟨w3.heap.size, 0, none⟩) (by simp only []; omega)).trans X_0
  have aY_0 := (hdr.cell (p := ⟨w3.heap.size + 1, 0, none⟩) (by simp only []; omega)).trans Y_0
  have aY_1 := (hdr.cell (p := ⟨w3.heap.size + 1, 1, none⟩) (by simp only []; omega)).trans Y_1
  have aY_2 := (hdr.cell (p := ⟨w3.heap.size + 1, 2, none⟩) (by simp only []; omega)).trans Y_2
  have aY_3 := (hdr.cell (p := ⟨w3.heap.size + 1, 3, none⟩) (by simp only []; omega)).trans Y_3
  have aR_0 := (hdr.cell (p := ⟨w.heap.size, 0, none⟩) (by simp only []; omega)).trans R_0
  have aR_f0 := (hdr.frozen (p := ⟨w.heap.size, 0, none⟩) (by simp only []; omega)).trans R_f0
  have aQ_0 := (hdr.cell (p := ⟨w.heap.size + 1, 0, none⟩) (by simp only []; omega)).trans Q_0
  have aQ_f0 := (hdr.frozen (p := ⟨w.heap.size + 1, 0, none⟩) (by simp only []; omega)).trans Q_f0
  have aQ_1 := (hdr.cell (p := ⟨w.heap.size + 1, 1, none⟩) (by simp only []; omega)).trans Q_1
  have aQ_f1 := (hdr.frozen (p := ⟨w.heap.size + 1, 1, none⟩) (by simp only []; omega)).trans Q_f1
  have aQ_2 := (hdr.cell (p := ⟨w.heap.size + 1, 2, none⟩) (by simp only []; omega)).trans Q_2
  have aQ_f2 := (hdr.frozen (p := ⟨w.heap.size + 1, 2, none⟩) (by simp only []; omega)).trans Q_f2
  have aQ_3 := (hdr.cell (p := ⟨w.heap.size + 1, 3, none⟩) (by simp only []; omega)).trans Q_3
  have aQ_f3 := (hdr.frozen (p := ⟨w.heap.size + 1, 3, none⟩) (by simp only []; omega)).trans Q_f3
  rw [← hwA]
  clear hwA ho X_0 Y_0 Y_1 Y_2 Y_3 R_0 R_f0 Q_0 Q_f0 Q_1 Q_f1 Q_2 Q_f2 Q_3 Q_f3
  refine wpAnyH_ready (rs := [2]) (by kernel_rfl) (by simp) ?_
  refine AllReadyH.cons rfl (fun K9 hK9 => ?_) AllReadyH.nil
  go_simp
  obtain ⟨wE, hwE⟩ : ∃ W, W = wA.setCell ⟨w.heap.size, 0, none⟩ (.slice b n c) := ⟨_, rfl⟩
  rw [← hwE]
  have eX_0 : wE.cell? ⟨w3.heap.size, 0, none⟩ = some (.slice b n c) := by
    rw [hwE]
    refine (World.cell?_of_block (a := ⟨w3.heap.size, 0, none⟩) ?_).trans aX_0
    rw [Below.heap_setCell _ _ _ _ (by simp only []; omega)]
  have eY_0 : wE.cell? ⟨w3.heap.size + 1, 0, none⟩ = some (.string m1) := by
    rw [hwE]
    refine (World.cell?_of_block (a := ⟨w3.heap.size + 1, 0, none⟩) ?_).trans aY_0
    rw [Below.heap_setCell _ _ _ _ (by simp only []; omega)]
  have eY_1 : wE.cell? ⟨w3.heap.size + 1, 1, none⟩ = some (.int .i64 c1) := by
    rw [hwE]
    refine (World.cell?_of_block (a := ⟨w3.heap.size + 1, 1, none⟩) ?_).trans aY_1
    rw [Below.heap_setCell _ _ _ _ (by simp only []; omega)]
  have eY_2 : wE.cell? ⟨w3.heap.size + 1, 2, none⟩ = some (.string m2) := by
    rw [hwE]
    refine (World.cell?_of_block (a := ⟨w3.heap.size + 1, 2, none⟩) ?_).trans aY_2
    rw [Below.heap_setCell _ _ _ _ (by simp only []; omega)]
  have eY_3 : wE.cell? ⟨w3.heap.size + 1, 3, none⟩ = some (.int .i64 c2) := by
    rw [hwE]
    refine (World.cell?_of_block (a := ⟨w3.heap.size + 1, 3, none⟩) ?_).trans aY_3
    rw [Below.heap_setCell _ _ _ _ (by simp only []; omega)]
  have eR_0 : wE.cell? ⟨w.heap.size, 0, none⟩ = some (.slice b n c) := by rw [hwE]; simp [go_sem, aR_0, aQ_0, aQ_1, aQ_2, aQ_3]
  have eQ_0 : wE.cell? ⟨w.heap.size + 1, 0, none⟩ = some (.string (ByteArray.mk #[])) := by rw [hwE]; simp [go_sem, aR_0, aQ_0, aQ_1, aQ_2, aQ_3]
  have eQ_1 : wE.cell? ⟨w.heap.size + 1, 1, none⟩ = some (.int .i64 0) := by rw [hwE]; simp [go_sem, aR_0, aQ_0, aQ_1, aQ_2, aQ_3]
  have eQ_2 : wE.cell? ⟨w.heap.size + 1, 2, none⟩ = some (.string (ByteArray.mk #[])) := by rw [hwE]; simp [go_sem, aR_0, aQ_0, aQ_1, aQ_2, aQ_3]
  have eQ_3 : wE.cell? ⟨w.heap.size + 1, 3, none⟩ = some (.int .i64 0) := by rw [hwE]; simp [go_sem, aR_0, aQ_0, aQ_1, aQ_2, aQ_3]
  have eR_f0 : wE.frozen? ⟨w.heap.size, 0, none⟩ = false := by rw [hwE]; simp [go_sem, aR_f0, aQ_f0, aQ_f1, aQ_f2, aQ_f3]
  have eQ_f0 : wE.frozen? ⟨w.heap.size + 1, 0, none⟩ = false := by rw [hwE]; simp [go_sem, aR_f0, aQ_f0, aQ_f1, aQ_f2, aQ_f3]
  have eQ_f1 : wE.frozen? ⟨w.heap.size + 1, 1, none⟩ = false := by rw [hwE]; simp [go_sem, aR_f0, aQ_f0, aQ_f1, aQ_f2, aQ_f3]
  have eQ_f2 : wE.frozen? ⟨w.heap.size + 1, 2, none⟩ = false := by rw [hwE]; simp [go_sem, aR_f0, aQ_f0, aQ_f1, aQ_f2, aQ_f3]
  have eQ_f3 : wE.frozen? ⟨w.heap.size + 1, 3, none⟩ = false := by rw [hwE]; simp [go_sem, aR_f0, aQ_f0, aQ_f1, aQ_f2, aQ_f3]
  have hoE : DrawnDb lo4 hi5 wE b n c db := by rw [hwE]; exact hoA.off rfl (by simp only []; omega)
  have sE : wE.heap.size = wA.heap.size := by rw [hwE]; simp [World.setCell]
  have hbE : Below w.heap.size w wE := by rw [hwE]; exact Below.setCell hbA (by simp only []; omega) _
  clear hwE hoA aR_0 aR_f0 aQ_0 aQ_f0 aQ_1 aQ_f1 aQ_2 aQ_f2 aQ_3 aQ_f3 aX_0 aY_0 aY_1 aY_2 aY_3
  refine hK9.out _ _ ⟨eX_0, eY_0, eY_1, eY_2, eY_3⟩ (fun hHeld => ?_)
  clear hK9 K9
  try simp only [Act.put, List.getElem_toArray, List.getElem_cons_succ, List.getElem_cons_zero, List.setIfInBounds_toArray, List.set_cons_zero, List.set_cons_succ]
  refine wpAnyH_ready (rs := [3]) (by kernel_rfl) (by simp) ?_
  refine AllReadyH.cons rfl (fun K9 hK9 => ?_) AllReadyH.nil
  go_simp
  obtain ⟨wF, hwF⟩ : ∃ W, W = (((wE.setCell ⟨w.heap.size + 1, 0, none⟩ (.string m1)).setCell ⟨w.heap.size + 1, 1, none⟩ (.int .i64 c1)).setCell ⟨w.heap.size + 1, 2, none⟩ (.string m2)).setCell ⟨w.heap.size + 1, 3, none⟩ (.int .i64 c2) := ⟨_, rfl⟩
  rw [← hwF]
  have zF : Below (w.heap.size + 1) wE wF := by
    rw [hwF]
    repeat (refine Below.setCell ?_ (by simp only []; omega) _)
    exact Below.refl _ _
  have sF : wF.heap.size = wE.heap.size := by rw [hwF]; simp [World.setCell]
  have hbF : Below w.heap.size w wF := hbE.trans (zF.mono (by omega))
  have hoF : DrawnDb lo4 hi5 wF b n c db := by
    rw [hwF]
    repeat (refine DrawnDb.off ?_ rfl (by simp only []; omega))
    exact hoE
  have fX_0 : wF.cell? ⟨w3.heap.size, 0, none⟩ = some (.slice b n c) := by
    rw [hwF]
    refine (World.cell?_of_block (a := ⟨w3.heap.size, 0, none⟩) ?_).trans eX_0
    rw [Below.heap_setCell _ _ _ _ (by simp only []; omega), Below.heap_setCell _ _ _ _ (by simp only []; omega), Below.heap_setCell _ _ _ _ (by simp only []; omega), Below.heap_setCell _ _ _ _ (by simp only []; omega)]
  have fY_0 : wF.cell? ⟨w3.heap.size + 1, 0, none⟩ = some (.string m1) := by
    rw [hwF]
    refine (World.cell?_of_block (a := ⟨w3.heap.size + 1, 0, none⟩) ?_).trans eY_0
    rw [Below.heap_setCell _ _ _ _ (by simp only []; omega), Below.heap_setCell _ _ _ _ (by simp only []; omega), Below.heap_setCell _ _ _ _ (by simp only []; omega), Below.heap_setCell _ _ _ _ (by simp only []; omega)]
  have fY_1 : wF.cell? ⟨w3.heap.size + 1, 1, none⟩ = some (.int .i64 c1) := by
    rw [hwF]
    refine (World.cell?_of_block (a := ⟨w3.heap.size + 1, 1, none⟩) ?_).trans eY_1
    rw [Below.heap_setCell _ _ _ _ (by simp only []; omega), Below.heap_setCell _ _ _ _ (by simp only []; omega), Below.heap_setCell _ _ _ _ (by simp only []; omega), Below.heap_setCell _ _ _ _ (by simp only []; omega)]
  have fY_2 : wF.cell? ⟨w3.heap.size + 1, 2, none⟩ = some (.string m2) := by
    rw [hwF]
    refine (World.cell?_of_block (a := ⟨w3.heap.size + 1, 2, none⟩) ?_).trans eY_2
    rw [Below.heap_setCell _ _ _ _ (by simp only []; omega), Below.heap_setCell _ _ _ _ (by simp only []; omega), Below.heap_setCell _ _ _ _ (by simp only []; omega), Below.heap_setCell _ _ _ _ (by simp only []; omega)]
  have fY_3 : wF.cell? ⟨w3.heap.size + 1, 3, none⟩ = some (.int .i64 c2) := by
    rw [hwF]
    refine (World.cell?_of_block (a := ⟨w3.heap.size + 1, 3, none⟩) ?_).trans eY_3
    rw [Below.heap_setCell _ _ _ _ (by simp only []; omega), Below.heap_setCell _ _ _ _ (by simp only []; omega), Below.heap_setCell _ _ _ _ (by simp only []; omega), Below.heap_setCell _ _ _ _ (by simp only []; omega)]
  have fR_0 : wF.cell? ⟨w.heap.size, 0, none⟩ = some (.slice b n c) := by rw [hwF]; simp [go_sem, eR_0, eQ_0, eQ_1, eQ_2, eQ_3]
  have fQ_0 : wF.cell? ⟨w.heap.size + 1, 0, none⟩ = some (.string m1) := by rw [hwF]; simp [go_sem, eR_0, eQ_0, eQ_1, eQ_2, eQ_3]
  have fQ_1 : wF.cell? ⟨w.heap.size + 1, 1, none⟩ = some (.int .i64 c1) := by rw [hwF]; simp [go_sem, eR_0, eQ_0, eQ_1, eQ_2, eQ_3]
  have fQ_2 : wF.cell? ⟨w.heap.size + 1, 2, none⟩ = some (.string m2) := by rw [hwF]; simp [go_sem, eR_0, eQ_0, eQ_1, eQ_2, eQ_3]
  have fQ_3 : wF.cell? ⟨w.heap.size + 1, 3, none⟩ = some (.int .i64 c2) := by rw [hwF]; simp [go_sem, eR_0, eQ_0, eQ_1, eQ_2, eQ_3]
  have fR_f0 : wF.frozen? ⟨w.heap.size, 0, none⟩ = false := by rw [hwF]; simp [go_sem, eR_f0, eQ_f0, eQ_f1, eQ_f2, eQ_f3]
  have fQ_f0 : wF.frozen? ⟨w.heap.size + 1, 0, none⟩ = false := by rw [hwF]; simp [go_sem, eR_f0, eQ_f0, eQ_f1, eQ_f2, eQ_f3]
  have fQ_f1 : wF.frozen? ⟨w.heap.size + 1, 1, none⟩ = false := by rw [hwF]; simp [go_sem, eR_f0, eQ_f0, eQ_f1, eQ_f2, eQ_f3]
  have fQ_f2 : wF.frozen? ⟨w.heap.size + 1, 2, none⟩ = false := by rw [hwF]; simp [go_sem, eR_f0, eQ_f0, eQ_f1, eQ_f2, eQ_f3]
  have fQ_f3 : wF.frozen? ⟨w.heap.size + 1, 3, none⟩ = false := by rw [hwF]; simp [go_sem, eR_f0, eQ_f0, eQ_f1, eQ_f2, eQ_f3]
  clear hwF zF hoE eR_0 eR_f0 eQ_0 eQ_f0 eQ_1 eQ_f1 eQ_2 eQ_f2 eQ_3 eQ_f3 eX_0 eY_0 eY_1 eY_2 eY_3
  refine hK9.out _ _ ⟨fX_0, fY_0, fY_1, fY_2, fY_3⟩ (fun hHeld => ?_)
  clear hK9 K9
  try simp only [Act.put, List.getElem_toArray, List.getElem_cons_succ, List.getElem_cons_zero, List.setIfInBounds_toArray, List.set_cons_zero, List.set_cons_succ]
  refine wpAnyH_done (by kernel_rfl) ?_ _
  refine NoPanic.normal ?_
  go_wp2_with fail
  refine bodyPost_ret (v := .tuple #[.agg #[.slice b n c], .agg #[.string m1, .int .i64 c1, .string m2, .int .i64 c2]]) (by simp [results, Tryd.results27, go_sem, fR_0, fR_f0, fQ_0, fQ_f0, fQ_1, fQ_f1, fQ_2, fQ_f2, fQ_3, fQ_f3]) rfl ⟨b, n, c, db, m1, c1, m2, c2, rfl, hoF.mono (by omega) (by omega), hms, hbF⟩

theorem rI_open9' {w : World} {b : Option Addr} {n c : Nat} {xs : List Int} (h : rI.rep w [.slice b n c] xs) : n = xs.length ∧ n ≤ c ∧ c ≤ 9223372036854775807 ∧ Ints w b n xs := by
  obtain ⟨a, cap, e, h1, h2, h3⟩ := rI_open h
  injection e with e1 e2 e3
  subst e1 e2 e3
  exact ⟨rfl, h1, h2, h3⟩
theorem name_bs {m : ByteArray} (h : nameB m = true) : ∃ b, m = bs [b] := by
  have h1 : m.size = 1 := by
    simp only [nameB, Bool.and_eq_true, decide_eq_true_eq] at h
    exact h.1
  obtain ⟨c, rfl⟩ := size_one h1
  exact ⟨c, rfl⟩
/-- An inclusion is read back from its text. -/
theorem par_fmt {x : DIn} (h : fmtIn x ≠ []) : parIn (bs (fmtIn x)) = some x := by
  have hk : okIn x = true := by
    by_cases h9 : okIn x = true
    · exact h9
    · exact absurd (by unfold fmtIn; rw [if_neg h9]) h
  obtain ⟨m1, c1, m2, c2⟩ := x
  have hk2 := hk
  simp only [okIn, Bool.and_eq_true, betw, decide_eq_true_eq] at hk2
  obtain ⟨n1, n2, r1, r2⟩ := hk2
  obtain ⟨b0, rfl⟩ := name_bs n1
  obtain ⟨b3, rfl⟩ := name_bs n2
  obtain ⟨d1, rfl⟩ := Int.eq_ofNat_of_zero_le r1.1
  obtain ⟨d2, rfl⟩ := Int.eq_ofNat_of_zero_le r2.1
  have e1 := chD_nat (show d1 ≤ 9 by omega)
  have e2 := chD_nat (show d2 ≤ 9 by omega)
  have hf : fmtIn (bs [b0], (d1 : Int), bs [b3], (d2 : Int)) = [b0, chD (d1 : Int), 60, b3, chD (d2 : Int)] := by
    unfold fmtIn
    rw [if_pos hk]; rfl
  rw [hf]
  show parInL [b0, chD (d1 : Int), 60, b3, chD (d2 : Int)] = _
  have hr : rawIn b0 (chD (d1 : Int)) b3 (chD (d2 : Int)) = (bs [b0], (d1 : Int), bs [b3], (d2 : Int)) := by
    unfold rawIn
    rw [show ((chD (d1 : Int)).toNat : Int) - 48 = (d1 : Int) by omega, show ((chD (d2 : Int)).toNat : Int) - 48 = (d2 : Int) by omega]
  unfold parInL
  simp only []
  rw [hr, if_pos hf]
theorem par_none {x : DIn} (h : fmtIn x = []) : parIn (bs (fmtIn x)) = none := by rw [h]; rfl
theorem fmtIn_len (x : DIn) (h1 : x.1.size ≤ 5) (h2 : x.2.2.1.size ≤ 5) : (bs (fmtIn x)).size ≤ 1048576 := by
  rw [bs_size]
  unfold fmtIn
  have e1 : x.1.data.toList.length = x.1.size := by simp
  have e2 : x.2.2.1.data.toList.length = x.2.2.1.size := by simp
  split
  · simp only [List.length_append, List.length_cons, List.length_nil]; omega
  · simp

set_option maxRecDepth 100000 in
set_option maxHeartbeats 8000000 in
theorem walk_FnInclusions (v0 : Value) (w : World) (h0 : kB_in w v0) :
    Calls Tryd.prog 5 #[v0] w fun e w' => e = .returned (.bool true) ∧ Below w.heap.size w w' := by
  obtain ⟨ba, bn, bc, rfl, hB⟩ := h0
  have hb0 : Below w.heap.size w w := Below.refl _ _
  go_enter Tryd.func5, Tryd.ntmps5
  go_wp2_with fail
  refine (big_any _ _ _ _).mono ?_
  rintro e w' ⟨rfl, rfl⟩
  by_cases hbig : 1048576 < bn
  · have e9 : decide (1048576 < bn) = true := by simpa using hbig
    rw [e9]
    go_wp2_with fail
    go_ret
    exact ⟨rfl, hb0⟩
  have e9 : decide (1048576 < bn) = false := by simpa using hbig
  rw [e9]
  clear e9
  go_wp2_with fail
  refine (drawMissing_any _ ba bn bc (by omega) hB).mono ?_
  rintro e w1 ⟨b, n, c, db, m1, c1, m2, c2, rfl, ho, hms, z1⟩
  have s2 := z1.size
  have hb2 := on hb0 z1
  clear hB
  obtain ⟨hm1, hm2, hc1, hc2⟩ := hms
  obtain ⟨w3, hw3⟩ : ∃ W, W = w1.alloc (.cells #[.slice b n c] 49) := ⟨_, rfl⟩
  have z3 : Below w1.heap.size w1 w3 := by rw [hw3]; exact (Below.refl _ _).alloc (Nat.le_refl _) _
  have s3 : w3.heap.size = w1.heap.size + 1 := by rw [hw3]; simp
  have hb3 := on hb2 z3
  replace ho := ho.below z3 (by omega)
  have X_0 : w3.cell? ⟨w1.heap.size, 0, none⟩ = some (.slice b n c) := by rw [hw3]; exact box_cell (Below.refl _ _) rfl
  have raw3_X_0 := X_0
  rw [hw3] at raw3_X_0
  obtain ⟨w4, hw4⟩ : ∃ W, W = w3.alloc (.cells #[.string m1, .int .i64 c1, .string m2, .int .i64 c2] 51) := ⟨_, rfl⟩
  have z4 : Below w3.heap.size w3 w4 := by rw [hw4]; exact (Below.refl _ _).alloc (Nat.le_refl _) _
  have s4 : w4.heap.size = w3.heap.size + 1 := by rw [hw4]; simp
  have hb4 := on hb3 z4
  replace ho := ho.below z4 (by omega)
  replace X_0 := (z4.cell (p := ⟨w1.heap.size, 0, none⟩) (by simp only []; omega)).trans X_0
  have e4 : w3.heap.size = w1.heap.size + 1 := by omega
  have Y_0 : w4.cell? ⟨w3.heap.size, 0, none⟩ = some (.string m1) := by rw [hw4]; exact box_cell (Below.refl _ _) rfl
  have Y_1 : w4.cell? ⟨w3.heap.size, 1, none⟩ = some (.int .i64 c1) := by rw [hw4]; exact box_cell (Below.refl _ _) rfl
  have Y_2 : w4.cell? ⟨w3.heap.size, 2, none⟩ = some (.string m2) := by rw [hw4]; exact box_cell (Below.refl _ _) rfl
  have Y_3 : w4.cell? ⟨w3.heap.size, 3, none⟩ = some (.int .i64 c2) := by rw [hw4]; exact box_cell (Below.refl _ _) rfl
  rw [e4] at Y_0 Y_1 Y_2 Y_3
  have raw4_X_0 := X_0
  have raw4_Y_0 := Y_0
  have raw4_Y_1 := Y_1
  have raw4_Y_2 := Y_2
  have raw4_Y_3 := Y_3
  rw [hw4, hw3] at raw4_X_0 raw4_Y_0 raw4_Y_1 raw4_Y_2 raw4_Y_3
  go_wp2_with fail
  rw [← hw3]
  rw [← hw4]
  clear hw4 hw3
  clear raw3_X_0 raw4_X_0 raw4_Y_0 raw4_Y_1 raw4_Y_2 raw4_Y_3
  obtain ⟨wq, rfl⟩ : ∃ W, W = w4 := ⟨_, rfl⟩
  have HD := Lib.hid (fun W (hW : Below wq.heap.size wq W) => rDb.mono ho.rd hW)
  have HI := Lib.hid (fun W => rIn_mk (w := W) (x := (m1, c1, m2, c2)) (show m1.size ≤ _ by omega) hc1 (show m2.size ≤ _ by omega) hc2)
  clear ho
  have hbq : Below wq.heap.size wq wq := Below.refl _ _
  refine (missing_impl _ _ db (m1, c1, m2, c2) _ (HD.out _ hbq) (HI.out _)).mono ?_
  rintro e wL ⟨u1, rfl, oL, zL⟩
  obtain ⟨lb, ln, lc, rfl⟩ := oI_form1 oL
  obtain ⟨hln, _, _, iL⟩ := rI_open9' (oL.rd reads_I)
  subst hln
  clear oL
  have s5 := zL.size
  have hb5 := on hb4 zL
  replace X_0 := (zL.cell (p := ⟨w1.heap.size, 0, none⟩) (by simp only []; omega)).trans X_0
  replace Y_0 := (zL.cell (p := ⟨w1.heap.size + 1, 0, none⟩) (by simp only []; omega)).trans Y_0
  replace Y_1 := (zL.cell (p := ⟨w1.heap.size + 1, 1, none⟩) (by simp only []; omega)).trans Y_1
  replace Y_2 := (zL.cell (p := ⟨w1.heap.size + 1, 2, none⟩) (by simp only []; omega)).trans Y_2
  replace Y_3 := (zL.cell (p := ⟨w1.heap.size + 1, 3, none⟩) (by simp only []; omega)).trans Y_3
  have hqL := zL
  go_wp2_with fail
  refine (holdsIn_impl _ _ db (m1, c1, m2, c2) _ (HD.out _ hqL) (HI.out _)).mono ?_
  rintro e wH ⟨rfl, zH⟩
  obtain ⟨hv, hhv⟩ : ∃ q, holdsIn db (m1, c1, m2, c2) = q := ⟨_, rfl⟩
  obtain ⟨vv, hvv⟩ : ∃ q, validIn db (m1, c1, m2, c2) = q := ⟨_, rfl⟩
  obtain ⟨ml, hml⟩ : ∃ q, missing db (m1, c1, m2, c2) = q := ⟨_, rfl⟩
  rw [hhv]
  rw [hml] at iL ⊢
  have s6 := zH.size
  have hb6 := on hb5 zH
  replace X_0 := (zH.cell (p := ⟨w1.heap.size, 0, none⟩) (by simp only []; omega)).trans X_0
  replace Y_0 := (zH.cell (p := ⟨w1.heap.size + 1, 0, none⟩) (by simp only []; omega)).trans Y_0
  replace Y_1 := (zH.cell (p := ⟨w1.heap.size + 1, 1, none⟩) (by simp only []; omega)).trans Y_1
  replace Y_2 := (zH.cell (p := ⟨w1.heap.size + 1, 2, none⟩) (by simp only []; omega)).trans Y_2
  replace Y_3 := (zH.cell (p := ⟨w1.heap.size + 1, 3, none⟩) (by simp only []; omega)).trans Y_3
  replace iL := iL.below zH
  have hqH := on hqL zH
  go_wp2_with fail
  have hdr : Below wH.heap.size wH wH.drew := (Below.refl _ _).drew
  have hne1 : (hv != hv) = false := by simp
  have hne2 : (vv != vv) = false := by simp
  refine wp_region_noPanic ?_
  refine wp_region_held_drew (S := (fun W => W.cell? ⟨w1.heap.size, 0, none⟩ = some (.slice b n c) ∧ W.cell? ⟨w1.heap.size + 1, 0, none⟩ = some (.string m1) ∧ W.cell? ⟨w1.heap.size + 1, 1, none⟩ = some (.int .i64 c1) ∧ W.cell? ⟨w1.heap.size + 1, 2, none⟩ = some (.string m2) ∧ W.cell? ⟨w1.heap.size + 1, 3, none⟩ = some (.int .i64 c2))) (by kernel_rfl) ?hS7 (fun hHeld => ?_)
  case hS7 => exact ⟨X_0, Y_0, Y_1, Y_2, Y_3⟩
  refine wpAnyH_take (i := 0) (v := ?v0_8) rfl (by kernel_rfl) (by kernel_rfl) (by kernel_rfl) (fun _ _ _ h => h) (Or.inl ⟨by rfl, ?hy0_8⟩) (by assumption) ?rest0_8
  case hy0_8 => intro w hSw; (try dsimp only at hSw); go_simp; (try with_reducible rfl)
  try simp only [Act.put, List.getElem_toArray, List.getElem_cons_succ, List.getElem_cons_zero, List.setIfInBounds_toArray, List.set_cons_zero, List.set_cons_succ]
  refine wpAnyH_take (i := 1) (v := ?v1_9) rfl (by kernel_rfl) (by kernel_rfl) (by kernel_rfl) (fun _ _ _ h => h) (Or.inl ⟨by rfl, ?hy1_9⟩) (by assumption) ?rest1_9
  case hy1_9 => intro w hSw; (try dsimp only at hSw); go_simp; (try with_reducible rfl)
  try simp only [Act.put, List.getElem_toArray, List.getElem_cons_succ, List.getElem_cons_zero, List.setIfInBounds_toArray, List.set_cons_zero, List.set_cons_succ]
  refine wpAnyH_take (i := 2) (v := ?v2_10) rfl (by kernel_rfl) (by kernel_rfl) (by kernel_rfl) (fun _ _ _ h => h) (Or.inl ⟨by rfl, ?hy2_10⟩) (by assumption) ?rest2_10
  case hy2_10 => intro w hSw; (try dsimp only at hSw); go_simp; (try with_reducible rfl)
  try simp only [Act.put, List.getElem_toArray, List.getElem_cons_succ, List.getElem_cons_zero, List.setIfInBounds_toArray, List.set_cons_zero, List.set_cons_succ]
  refine wpAnyH_ready (rs := [3]) (by kernel_rfl) (by simp) ?_
  refine AllReadyH.cons rfl (fun K hK => ?_) AllReadyH.nil
  go_simp; (refine (missing_spec _ _ db (m1, c1, m2, c2) _ (HD.out _ (on hqH hdr)) (HI.out _)).mono ?_); rintro e wW1 ⟨u2, rfl, oM, zz⟩; have zwW1 : Below wH.heap.size wH wW1 := on hdr zz; have swW1 := zwW1.size; obtain ⟨qb, qn, qc, rfl⟩ := oI_form1 oM; rw [hml] at oM; obtain ⟨hqn, _, _, iM⟩ := rI_open9' (oM.rd reads_I); subst hqn; clear oM; have iL1 := iL.below zwW1; have wW1X_0 := (zwW1.cell (p := ⟨w1.heap.size, 0, none⟩) (by simp only []; omega)).trans X_0; have wW1Y_0 := (zwW1.cell (p := ⟨w1.heap.size + 1, 0, none⟩) (by simp only []; omega)).trans Y_0; have wW1Y_1 := (zwW1.cell (p := ⟨w1.heap.size + 1, 1, none⟩) (by simp only []; omega)).trans Y_1; have wW1Y_2 := (zwW1.cell (p := ⟨w1.heap.size + 1, 2, none⟩) (by simp only []; omega)).trans Y_2; have wW1Y_3 := (zwW1.cell (p := ⟨w1.heap.size + 1, 3, none⟩) (by simp only []; omega)).trans Y_3; clear zz
  refine hK.out _ _ ?_ (fun hHeld => ?_)
  · exact ⟨wW1X_0, wW1Y_0, wW1Y_1, wW1Y_2, wW1Y_3⟩
  clear hK K
  try simp only [Act.put, List.setIfInBounds_toArray, List.set_cons_zero, List.set_cons_succ]
  refine wpAnyH_ready (rs := [4]) (by kernel_rfl) (by simp) ?_
  refine AllReadyH.cons rfl (fun K hK => ?_) AllReadyH.nil
  go_simp; (refine (sameInts_eq _ _ _ _ _ ml _ iL1 iM).mono ?_); rintro e wW2 ⟨rfl, zz0⟩; have zz := zz0.below wW1.heap.size; have zwW2 : Below wH.heap.size wH wW2 := on zwW1 zz; have swW2 := zwW2.size; clear iL1 iM zz0; have wW2X_0 := (zwW2.cell (p := ⟨w1.heap.size, 0, none⟩) (by simp only []; omega)).trans X_0; have wW2Y_0 := (zwW2.cell (p := ⟨w1.heap.size + 1, 0, none⟩) (by simp only []; omega)).trans Y_0; have wW2Y_1 := (zwW2.cell (p := ⟨w1.heap.size + 1, 1, none⟩) (by simp only []; omega)).trans Y_1; have wW2Y_2 := (zwW2.cell (p := ⟨w1.heap.size + 1, 2, none⟩) (by simp only []; omega)).trans Y_2; have wW2Y_3 := (zwW2.cell (p := ⟨w1.heap.size + 1, 3, none⟩) (by simp only []; omega)).trans Y_3; clear zz
  refine hK.out _ _ ?_ (fun hHeld => ?_)
  · exact ⟨wW2X_0, wW2Y_0, wW2Y_1, wW2Y_2, wW2Y_3⟩
  clear hK K
  try simp only [Act.put, List.setIfInBounds_toArray, List.set_cons_zero, List.set_cons_succ]
  refine wpAnyH_take (i := 5) (v := ?v5_11) rfl (by kernel_rfl) (by kernel_rfl) (by kernel_rfl) (fun _ _ _ h => h) (Or.inl ⟨by rfl, ?hy5_11⟩) (by assumption) ?rest5_11
  case hy5_11 => intro w hSw; (try dsimp only at hSw); go_simp; (try with_reducible rfl)
  try simp only [Act.put, List.getElem_toArray, List.getElem_cons_succ, List.getElem_cons_zero, List.setIfInBounds_toArray, List.set_cons_zero, List.set_cons_succ]
  refine wpAnyH_take (i := 6) (v := ?v6_12) rfl (by kernel_rfl) (by kernel_rfl) (by kernel_rfl) (fun _ _ _ h => h) (Or.inl ⟨by rfl, ?hy6_12⟩) (by assumption) ?rest6_12
  case hy6_12 => intro w hSw; (try dsimp only at hSw); go_simp; (try with_reducible rfl)
  try simp only [Act.put, List.getElem_toArray, List.getElem_cons_succ, List.getElem_cons_zero, List.setIfInBounds_toArray, List.set_cons_zero, List.set_cons_succ]
  refine wpAnyH_take (i := 7) (v := ?v7_13) rfl (by kernel_rfl) (by kernel_rfl) (by kernel_rfl) (fun _ _ _ h => h) (Or.inl ⟨by rfl, ?hy7_13⟩) (by assumption) ?rest7_13
  case hy7_13 => intro w hSw; (try dsimp only at hSw); go_simp; (try with_reducible rfl)
  try simp only [Act.put, List.getElem_toArray, List.getElem_cons_succ, List.getElem_cons_zero, List.setIfInBounds_toArray, List.set_cons_zero, List.set_cons_succ]
  refine wpAnyH_take (i := 8) (v := ?v8_14) rfl (by kernel_rfl) (by kernel_rfl) (by kernel_rfl) (fun _ _ _ h => h) (Or.inl ⟨by rfl, ?hy8_14⟩) (by assumption) ?rest8_14
  case hy8_14 => intro w hSw; (try dsimp only at hSw); go_simp; (try with_reducible rfl)
  try simp only [Act.put, List.getElem_toArray, List.getElem_cons_succ, List.getElem_cons_zero, List.setIfInBounds_toArray, List.set_cons_zero, List.set_cons_succ]
  refine wpAnyH_take (i := 9) (v := ?v9_15) rfl (by kernel_rfl) (by kernel_rfl) (by kernel_rfl) (fun _ _ _ h => h) (Or.inl ⟨by rfl, ?hy9_15⟩) (by assumption) ?rest9_15
  case hy9_15 => intro w hSw; (try dsimp only at hSw); go_simp; (try with_reducible rfl)
  try simp only [Act.put, List.getElem_toArray, List.getElem_cons_succ, List.getElem_cons_zero, List.setIfInBounds_toArray, List.set_cons_zero, List.set_cons_succ]
  refine wpAnyH_ready (rs := [10]) (by kernel_rfl) (by simp) ?_
  refine AllReadyH.cons rfl (fun K hK => ?_) AllReadyH.nil
  go_simp; (refine (holdsIn_spec _ _ db (m1, c1, m2, c2) _ (HD.out _ (on hqH zwW2)) (HI.out _)).mono ?_); rintro e wW3 ⟨rfl, zz⟩; have zwW3 : Below wH.heap.size wH wW3 := on zwW2 zz; have swW3 := zwW3.size; rw [hhv]; have wW3X_0 := (zwW3.cell (p := ⟨w1.heap.size, 0, none⟩) (by simp only []; omega)).trans X_0; have wW3Y_0 := (zwW3.cell (p := ⟨w1.heap.size + 1, 0, none⟩) (by simp only []; omega)).trans Y_0; have wW3Y_1 := (zwW3.cell (p := ⟨w1.heap.size + 1, 1, none⟩) (by simp only []; omega)).trans Y_1; have wW3Y_2 := (zwW3.cell (p := ⟨w1.heap.size + 1, 2, none⟩) (by simp only []; omega)).trans Y_2; have wW3Y_3 := (zwW3.cell (p := ⟨w1.heap.size + 1, 3, none⟩) (by simp only []; omega)).trans Y_3; clear zz
  refine hK.out _ _ ?_ (fun hHeld => ?_)
  · exact ⟨wW3X_0, wW3Y_0, wW3Y_1, wW3Y_2, wW3Y_3⟩
  clear hK K
  try simp only [Act.put, List.setIfInBounds_toArray, List.set_cons_zero, List.set_cons_succ]
  refine wpAnyH_take (i := 11) (v := ?v11_16) rfl (by kernel_rfl) (by kernel_rfl) (by kernel_rfl) (fun _ _ _ h => h) (Or.inl ⟨by rfl, ?hy11_16⟩) (by assumption) ?rest11_16
  case hy11_16 => intro w hSw; (try dsimp only at hSw); go_simp; (try with_reducible rfl)
  try simp only [Act.put, List.getElem_toArray, List.getElem_cons_succ, List.getElem_cons_zero, List.setIfInBounds_toArray, List.set_cons_zero, List.set_cons_succ]
  refine wpAnyH_take (i := 12) (v := ?v12_17) rfl (by kernel_rfl) (by kernel_rfl) (by kernel_rfl) (fun _ _ _ h => h) (Or.inl ⟨by rfl, ?hy12_17⟩) (by assumption) ?rest12_17
  case hy12_17 => intro w hSw; (try dsimp only at hSw); go_simp; (try with_reducible rfl)
  try simp only [Act.put, List.getElem_toArray, List.getElem_cons_succ, List.getElem_cons_zero, List.setIfInBounds_toArray, List.set_cons_zero, List.set_cons_succ]
  refine wpAnyH_take (i := 13) (v := ?v13_18) rfl (by kernel_rfl) (by kernel_rfl) (by kernel_rfl) (fun _ _ _ h => h) (Or.inl ⟨by rfl, ?hy13_18⟩) (by assumption) ?rest13_18
  case hy13_18 => intro w hSw; (try dsimp only at hSw); go_simp; (try with_reducible rfl)
  try simp only [Act.put, List.getElem_toArray, List.getElem_cons_succ, List.getElem_cons_zero, List.setIfInBounds_toArray, List.set_cons_zero, List.set_cons_succ]
  refine wpAnyH_take (i := 14) (v := ?v14_19) rfl (by kernel_rfl) (by kernel_rfl) (by kernel_rfl) (fun _ _ _ h => h) (Or.inl ⟨by rfl, ?hy14_19⟩) (by assumption) ?rest14_19
  case hy14_19 => intro w hSw; (try dsimp only at hSw); go_simp; (try with_reducible rfl)
  try simp only [Act.put, List.getElem_toArray, List.getElem_cons_succ, List.getElem_cons_zero, List.setIfInBounds_toArray, List.set_cons_zero, List.set_cons_succ]
  refine wpAnyH_take (i := 15) (v := ?v15_20) rfl (by kernel_rfl) (by kernel_rfl) (by kernel_rfl) (fun _ _ _ h => h) (Or.inl ⟨by rfl, ?hy15_20⟩) (by assumption) ?rest15_20
  case hy15_20 => intro w hSw; (try dsimp only at hSw); go_simp; (try with_reducible rfl)
  try simp only [Act.put, List.getElem_toArray, List.getElem_cons_succ, List.getElem_cons_zero, List.setIfInBounds_toArray, List.set_cons_zero, List.set_cons_succ]
  refine wpAnyH_take (i := 17) (v := ?v17_21) rfl (by kernel_rfl) (by kernel_rfl) (by kernel_rfl) (fun _ _ _ h => h) (Or.inl ⟨by rfl, ?hy17_21⟩) (by assumption) ?rest17_21
  case hy17_21 => intro w hSw; (try dsimp only at hSw); go_simp; (try with_reducible rfl)
  try simp only [Act.put, List.getElem_toArray, List.getElem_cons_succ, List.getElem_cons_zero, List.setIfInBounds_toArray, List.set_cons_zero, List.set_cons_succ]
  refine wpAnyH_take (i := 18) (v := ?v18_22) rfl (by kernel_rfl) (by kernel_rfl) (by kernel_rfl) (fun _ _ _ h => h) (Or.inl ⟨by rfl, ?hy18_22⟩) (by assumption) ?rest18_22
  case hy18_22 => intro w hSw; (try dsimp only at hSw); go_simp; (try with_reducible rfl)
  try simp only [Act.put, List.getElem_toArray, List.getElem_cons_succ, List.getElem_cons_zero, List.setIfInBounds_toArray, List.set_cons_zero, List.set_cons_succ]
  refine wpAnyH_ready (rs := [16]) (by kernel_rfl) (by simp) ?_
  refine AllReadyH.cons rfl (fun K hK => ?_) AllReadyH.nil
  go_simp; (refine (validIn_impl _ _ db (m1, c1, m2, c2) _ (HD.out _ (on hqH zwW3)) (HI.out _)).mono ?_); rintro e wW4 ⟨rfl, zz⟩; have zwW4 : Below wH.heap.size wH wW4 := on zwW3 zz; have swW4 := zwW4.size; rw [hvv]; have wW4X_0 := (zwW4.cell (p := ⟨w1.heap.size, 0, none⟩) (by simp only []; omega)).trans X_0; have wW4Y_0 := (zwW4.cell (p := ⟨w1.heap.size + 1, 0, none⟩) (by simp only []; omega)).trans Y_0; have wW4Y_1 := (zwW4.cell (p := ⟨w1.heap.size + 1, 1, none⟩) (by simp only []; omega)).trans Y_1; have wW4Y_2 := (zwW4.cell (p := ⟨w1.heap.size + 1, 2, none⟩) (by simp only []; omega)).trans Y_2; have wW4Y_3 := (zwW4.cell (p := ⟨w1.heap.size + 1, 3, none⟩) (by simp only []; omega)).trans Y_3; clear zz
  refine hK.out _ _ ?_ (fun hHeld => ?_)
  · exact ⟨wW4X_0, wW4Y_0, wW4Y_1, wW4Y_2, wW4Y_3⟩
  clear hK K
  try simp only [Act.put, List.setIfInBounds_toArray, List.set_cons_zero, List.set_cons_succ]
  refine wpAnyH_ready (rs := [19]) (by kernel_rfl) (by simp) ?_
  refine AllReadyH.cons rfl (fun K hK => ?_) AllReadyH.nil
  go_simp; (refine (validIn_spec _ _ db (m1, c1, m2, c2) _ (HD.out _ (on hqH zwW4)) (HI.out _)).mono ?_); rintro e wW5 ⟨rfl, zz⟩; have zwW5 : Below wH.heap.size wH wW5 := on zwW4 zz; have swW5 := zwW5.size; rw [hvv]; have wW5X_0 := (zwW5.cell (p := ⟨w1.heap.size, 0, none⟩) (by simp only []; omega)).trans X_0; have wW5Y_0 := (zwW5.cell (p := ⟨w1.heap.size + 1, 0, none⟩) (by simp only []; omega)).trans Y_0; have wW5Y_1 := (zwW5.cell (p := ⟨w1.heap.size + 1, 1, none⟩) (by simp only []; omega)).trans Y_1; have wW5Y_2 := (zwW5.cell (p := ⟨w1.heap.size + 1, 2, none⟩) (by simp only []; omega)).trans Y_2; have wW5Y_3 := (zwW5.cell (p := ⟨w1.heap.size + 1, 3, none⟩) (by simp only []; omega)).trans Y_3; clear zz
  refine hK.out _ _ ?_ (fun hHeld => ?_)
  · exact ⟨wW5X_0, wW5Y_0, wW5Y_1, wW5Y_2, wW5Y_3⟩
  clear hK K
  try simp only [Act.put, List.setIfInBounds_toArray, List.set_cons_zero, List.set_cons_succ]
  refine wpAnyH_take (i := 20) (v := ?v20_23) rfl (by kernel_rfl) (by kernel_rfl) (by kernel_rfl) (fun _ _ _ h => h) (Or.inl ⟨by rfl, ?hy20_23⟩) (by assumption) ?rest20_23
  case hy20_23 => intro w hSw; (try dsimp only at hSw); go_simp; (try with_reducible rfl)
  try simp only [Act.put, List.getElem_toArray, List.getElem_cons_succ, List.getElem_cons_zero, List.setIfInBounds_toArray, List.set_cons_zero, List.set_cons_succ]
  refine wpAnyH_take (i := 21) (v := ?v21_24) rfl (by kernel_rfl) (by kernel_rfl) (by kernel_rfl) (fun _ _ _ h => h) (Or.inl ⟨by rfl, ?hy21_24⟩) (by assumption) ?rest21_24
  case hy21_24 => intro w hSw; (try dsimp only at hSw); go_simp; (try with_reducible rfl)
  try simp only [Act.put, List.getElem_toArray, List.getElem_cons_succ, List.getElem_cons_zero, List.setIfInBounds_toArray, List.set_cons_zero, List.set_cons_succ]
  refine wpAnyH_done (by kernel_rfl) ?_ _
  refine NoPanic.normal ?_
  clear wW1X_0 wW1Y_0 wW1Y_1 wW1Y_2 wW1Y_3 wW2X_0 wW2Y_0 wW2Y_1 wW2Y_2 wW2Y_3 wW3X_0 wW3Y_0 wW3Y_1 wW3Y_2 wW3Y_3 wW4X_0 wW4Y_0 wW4Y_1 wW4Y_2 wW4Y_3 wW5X_0 wW5Y_0 wW5Y_1 wW5Y_2 wW5Y_3 iL hdr
  have s25 := zwW5.size
  have hb25 := on hb6 zwW5
  replace X_0 := (zwW5.cell (p := ⟨w1.heap.size, 0, none⟩) (by simp only []; omega)).trans X_0
  replace Y_0 := (zwW5.cell (p := ⟨w1.heap.size + 1, 0, none⟩) (by simp only []; omega)).trans Y_0
  replace Y_1 := (zwW5.cell (p := ⟨w1.heap.size + 1, 1, none⟩) (by simp only []; omega)).trans Y_1
  replace Y_2 := (zwW5.cell (p := ⟨w1.heap.size + 1, 2, none⟩) (by simp only []; omega)).trans Y_2
  replace Y_3 := (zwW5.cell (p := ⟨w1.heap.size + 1, 3, none⟩) (by simp only []; omega)).trans Y_3
  have hq5 := on hqH zwW5
  go_wp2_with fail
  refine (fmtIn_impl _ (m1, c1, m2, c2) _ (HI.out _)).mono ?_
  rintro e wf ⟨rfl, zf⟩
  have s26 := zf.size
  have hb26 := on hb25 zf
  replace X_0 := (zf.cell (p := ⟨w1.heap.size, 0, none⟩) (by simp only []; omega)).trans X_0
  replace Y_0 := (zf.cell (p := ⟨w1.heap.size + 1, 0, none⟩) (by simp only []; omega)).trans Y_0
  replace Y_1 := (zf.cell (p := ⟨w1.heap.size + 1, 1, none⟩) (by simp only []; omega)).trans Y_1
  replace Y_2 := (zf.cell (p := ⟨w1.heap.size + 1, 2, none⟩) (by simp only []; omega)).trans Y_2
  replace Y_3 := (zf.cell (p := ⟨w1.heap.size + 1, 3, none⟩) (by simp only []; omega)).trans Y_3
  have HSP := Lib.hid (fun W => fmtIn_spec _ (m1, c1, m2, c2) W (HI.out W))
  have hsz := fmtIn_len (m1, c1, m2, c2) hm1 hm2
  have HPF := Lib.hid (fun h => par_fmt (x := (m1, c1, m2, c2)) h)
  have HPN := Lib.hid (fun h => par_none (x := (m1, c1, m2, c2)) h)
  obtain ⟨F, hF⟩ : ∃ q, fmtIn (m1, c1, m2, c2) = q := ⟨_, rfl⟩
  simp only [hF] at HSP HPF HPN hsz
  rw [hF]
  clear hF
  go_wp2_with fail
  refine (parI_impl (bs F) _ hsz).mono ?_
  rintro e wp ⟨rfl, zp⟩
  have s27 := zp.size
  have hb27 := on hb26 zp
  replace X_0 := (zp.cell (p := ⟨w1.heap.size, 0, none⟩) (by simp only []; omega)).trans X_0
  replace Y_0 := (zp.cell (p := ⟨w1.heap.size + 1, 0, none⟩) (by simp only []; omega)).trans Y_0
  replace Y_1 := (zp.cell (p := ⟨w1.heap.size + 1, 1, none⟩) (by simp only []; omega)).trans Y_1
  replace Y_2 := (zp.cell (p := ⟨w1.heap.size + 1, 2, none⟩) (by simp only []; omega)).trans Y_2
  replace Y_3 := (zp.cell (p := ⟨w1.heap.size + 1, 3, none⟩) (by simp only []; omega)).trans Y_3
  cases F with
  | nil =>
    have hp : parIn (bs []) = none := HPN.out rfl
    rw [hp]
    simp only [Option.getD_none, Option.isSome_none, zeroIn]
    obtain ⟨w28, hw28⟩ : ∃ W, W = wp.alloc (.cells #[.string (ByteArray.mk #[]), .int .i64 0, .string (ByteArray.mk #[]), .int .i64 0] 51) := ⟨_, rfl⟩
    have z28 : Below wp.heap.size wp w28 := by rw [hw28]; exact (Below.refl _ _).alloc (Nat.le_refl _) _
    have s28 : w28.heap.size = wp.heap.size + 1 := by rw [hw28]; simp
    have hb28 := on hb27 z28
    have old28_X_0 := X_0
    have old28_Y_0 := Y_0
    have old28_Y_1 := Y_1
    have old28_Y_2 := Y_2
    have old28_Y_3 := Y_3
    replace X_0 := (z28.cell (p := ⟨w1.heap.size, 0, none⟩) (by simp only []; omega)).trans X_0
    replace Y_0 := (z28.cell (p := ⟨w1.heap.size + 1, 0, none⟩) (by simp only []; omega)).trans Y_0
    replace Y_1 := (z28.cell (p := ⟨w1.heap.size + 1, 1, none⟩) (by simp only []; omega)).trans Y_1
    replace Y_2 := (z28.cell (p := ⟨w1.heap.size + 1, 2, none⟩) (by simp only []; omega)).trans Y_2
    replace Y_3 := (z28.cell (p := ⟨w1.heap.size + 1, 3, none⟩) (by simp only []; omega)).trans Y_3
    have Z_0 : w28.cell? ⟨wp.heap.size, 0, none⟩ = some (.string (ByteArray.mk #[])) := by rw [hw28]; exact box_cell (Below.refl _ _) rfl
    have Z_1 : w28.cell? ⟨wp.heap.size, 1, none⟩ = some (.int .i64 0) := by rw [hw28]; exact box_cell (Below.refl _ _) rfl
    have Z_2 : w28.cell? ⟨wp.heap.size, 2, none⟩ = some (.string (ByteArray.mk #[])) := by rw [hw28]; exact box_cell (Below.refl _ _) rfl
    have Z_3 : w28.cell? ⟨wp.heap.size, 3, none⟩ = some (.int .i64 0) := by rw [hw28]; exact box_cell (Below.refl _ _) rfl
    have raw28_X_0 := X_0
    have raw28_Y_0 := Y_0
    have raw28_Y_1 := Y_1
    have raw28_Y_2 := Y_2
    have raw28_Y_3 := Y_3
    have raw28_Z_0 := Z_0
    have raw28_Z_1 := Z_1
    have raw28_Z_2 := Z_2
    have raw28_Z_3 := Z_3
    rw [hw28] at raw28_X_0 raw28_Y_0 raw28_Y_1 raw28_Y_2 raw28_Y_3 raw28_Z_0 raw28_Z_1 raw28_Z_2 raw28_Z_3
    go_wp2_with fail
    rw [← hw28]
    clear hw28
    clear old28_X_0 old28_Y_0 old28_Y_1 old28_Y_2 old28_Y_3 raw28_X_0 raw28_Y_0 raw28_Y_1 raw28_Y_2 raw28_Y_3 raw28_Z_0 raw28_Z_1 raw28_Z_2 raw28_Z_3
    refine (HSP.out _).mono ?_
    rintro e wz ⟨rfl, zz⟩
    have s29 := zz.size
    have hb29 := on hb28 zz
    replace X_0 := (zz.cell (p := ⟨w1.heap.size, 0, none⟩) (by simp only []; omega)).trans X_0
    replace Y_0 := (zz.cell (p := ⟨w1.heap.size + 1, 0, none⟩) (by simp only []; omega)).trans Y_0
    replace Y_1 := (zz.cell (p := ⟨w1.heap.size + 1, 1, none⟩) (by simp only []; omega)).trans Y_1
    replace Y_2 := (zz.cell (p := ⟨w1.heap.size + 1, 2, none⟩) (by simp only []; omega)).trans Y_2
    replace Y_3 := (zz.cell (p := ⟨w1.heap.size + 1, 3, none⟩) (by simp only []; omega)).trans Y_3
    replace Z_0 := (zz.cell (p := ⟨wp.heap.size, 0, none⟩) (by simp only []; omega)).trans Z_0
    replace Z_1 := (zz.cell (p := ⟨wp.heap.size, 1, none⟩) (by simp only []; omega)).trans Z_1
    replace Z_2 := (zz.cell (p := ⟨wp.heap.size, 2, none⟩) (by simp only []; omega)).trans Z_2
    replace Z_3 := (zz.cell (p := ⟨wp.heap.size, 3, none⟩) (by simp only []; omega)).trans Z_3
    go_wp2_with fail
    go_ret
    exact ⟨rfl, hb29⟩
  | cons f0 F' =>
    have hp : parIn (bs (f0 :: F')) = some (m1, c1, m2, c2) := HPF.out (by simp)
    rw [hp]
    simp only [Option.getD_some, Option.isSome_some]
    obtain ⟨w30, hw30⟩ : ∃ W, W = wp.alloc (.cells #[.string m1, .int .i64 c1, .string m2, .int .i64 c2] 51) := ⟨_, rfl⟩
    have z30 : Below wp.heap.size wp w30 := by rw [hw30]; exact (Below.refl _ _).alloc (Nat.le_refl _) _
    have s30 : w30.heap.size = wp.heap.size + 1 := by rw [hw30]; simp
    have hb30 := on hb27 z30
    have old30_X_0 := X_0
    have old30_Y_0 := Y_0
    have old30_Y_1 := Y_1
    have old30_Y_2 := Y_2
    have old30_Y_3 := Y_3
    replace X_0 := (z30.cell (p := ⟨w1.heap.size, 0, none⟩) (by simp only []; omega)).trans X_0
    replace Y_0 := (z30.cell (p := ⟨w1.heap.size + 1, 0, none⟩) (by simp only []; omega)).trans Y_0
    replace Y_1 := (z30.cell (p := ⟨w1.heap.size + 1, 1, none⟩) (by simp only []; omega)).trans Y_1
    replace Y_2 := (z30.cell (p := ⟨w1.heap.size + 1, 2, none⟩) (by simp only []; omega)).trans Y_2
    replace Y_3 := (z30.cell (p := ⟨w1.heap.size + 1, 3, none⟩) (by simp only []; omega)).trans Y_3
    have Z_0 : w30.cell? ⟨wp.heap.size, 0, none⟩ = some (.string m1) := by rw [hw30]; exact box_cell (Below.refl _ _) rfl
    have Z_1 : w30.cell? ⟨wp.heap.size, 1, none⟩ = some (.int .i64 c1) := by rw [hw30]; exact box_cell (Below.refl _ _) rfl
    have Z_2 : w30.cell? ⟨wp.heap.size, 2, none⟩ = some (.string m2) := by rw [hw30]; exact box_cell (Below.refl _ _) rfl
    have Z_3 : w30.cell? ⟨wp.heap.size, 3, none⟩ = some (.int .i64 c2) := by rw [hw30]; exact box_cell (Below.refl _ _) rfl
    have raw30_X_0 := X_0
    have raw30_Y_0 := Y_0
    have raw30_Y_1 := Y_1
    have raw30_Y_2 := Y_2
    have raw30_Y_3 := Y_3
    have raw30_Z_0 := Z_0
    have raw30_Z_1 := Z_1
    have raw30_Z_2 := Z_2
    have raw30_Z_3 := Z_3
    rw [hw30] at raw30_X_0 raw30_Y_0 raw30_Y_1 raw30_Y_2 raw30_Y_3 raw30_Z_0 raw30_Z_1 raw30_Z_2 raw30_Z_3
    go_wp2_with fail
    rw [← hw30]
    clear hw30
    clear old30_X_0 old30_Y_0 old30_Y_1 old30_Y_2 old30_Y_3 raw30_X_0 raw30_Y_0 raw30_Y_1 raw30_Y_2 raw30_Y_3 raw30_Z_0 raw30_Z_1 raw30_Z_2 raw30_Z_3
    refine (HSP.out _).mono ?_
    rintro e wz ⟨rfl, zz⟩
    have s31 := zz.size
    have hb31 := on hb30 zz
    replace X_0 := (zz.cell (p := ⟨w1.heap.size, 0, none⟩) (by simp only []; omega)).trans X_0
    replace Y_0 := (zz.cell (p := ⟨w1.heap.size + 1, 0, none⟩) (by simp only []; omega)).trans Y_0
    replace Y_1 := (zz.cell (p := ⟨w1.heap.size + 1, 1, none⟩) (by simp only []; omega)).trans Y_1
    replace Y_2 := (zz.cell (p := ⟨w1.heap.size + 1, 2, none⟩) (by simp only []; omega)).trans Y_2
    replace Y_3 := (zz.cell (p := ⟨w1.heap.size + 1, 3, none⟩) (by simp only []; omega)).trans Y_3
    replace Z_0 := (zz.cell (p := ⟨wp.heap.size, 0, none⟩) (by simp only []; omega)).trans Z_0
    replace Z_1 := (zz.cell (p := ⟨wp.heap.size, 1, none⟩) (by simp only []; omega)).trans Z_1
    replace Z_2 := (zz.cell (p := ⟨wp.heap.size, 2, none⟩) (by simp only []; omega)).trans Z_2
    replace Z_3 := (zz.cell (p := ⟨wp.heap.size, 3, none⟩) (by simp only []; omega)).trans Z_3
    go_wp2_with fail
    go_ret
    exact ⟨rfl, hb31⟩

end Go.Proofs.YtehcjdbljdpmbaaDoor
