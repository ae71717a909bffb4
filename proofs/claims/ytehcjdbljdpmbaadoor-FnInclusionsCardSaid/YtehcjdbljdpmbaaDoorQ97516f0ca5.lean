/- Texts joined for one claim: Draw10. -/
import Derived.Test.YtehcjdbljdpmbaaDoorQ5100ed5e2b
import Derived.Test.YtehcjdbljdpmbaaDoorQ6c56f77fd6

/- Contracts: the reference's draws (10): inclusions. -/
namespace Go.Proofs.YtehcjdbljdpmbaaDoor
open Go.RowKit
set_option linter.unusedVariables false
set_option linter.unusedSimpArgs false
set_option synthInstance.maxSize 2000
set_option synthInstance.maxHeartbeats 400000

set_option maxRecDepth 100000 in
set_option maxHeartbeats 4000000 in
theorem l12Inc_any (w : World) (cb : Nat) (ba : Option Addr) (bn bc : Nat) (HC : Cur w cb ba bn bc) (hcb : cb < w.heap.size) :
    Calls Tryd.prog 95 #[.pointer (some ⟨cb, 0, none⟩)] w fun e w' => ∃ (m1 : ByteArray) (c1 : Int) (m2 : ByteArray) (c2 : Int), e = .returned (.agg #[.string m1, .int .i64 c1, .string m2, .int .i64 c2]) ∧ (m1.size ≤ 5 ∧ m2.size ≤ 5 ∧ I64 c1 ∧ I64 c2) ∧ Cur w' cb ba bn bc ∧ Turn cb (cb + 1) w w' := by
  have ht0 : Turn cb (cb + 1) w w := (Kept.refl cb (cb + 1) w).turn
  go_enter Tryd.func95, Tryd.ntmps95
  obtain ⟨w1, hw1⟩ : ∃ W, W = w.alloc (.cells #[.string (ByteArray.mk #[]), .int .i64 0, .string (ByteArray.mk #[]), .int .i64 0] 51) := ⟨_, rfl⟩
  have z1 : Below w.heap.size w w1 := by rw [hw1]; exact (Below.refl _ _).alloc (Nat.le_refl _) _
  have s1 : w1.heap.size = w.heap.size + 1 := by rw [hw1]; simp
  have hb1 := turn_on' ht0 (z1.mono (by omega))
  replace HC := HC.below' z1 (by omega)
  have R_0 : w1.cell? ⟨w.heap.size, 0, none⟩ = some (.string (ByteArray.mk #[])) := by rw [hw1]; exact box_cell (Below.refl _ _) rfl
  have R_1 : w1.cell? ⟨w.heap.size, 1, none⟩ = some (.int .i64 0) := by rw [hw1]; exact box_cell (Below.refl _ _) rfl
  have R_2 : w1.cell? ⟨w.heap.size, 2, none⟩ = some (.string (ByteArray.mk #[])) := by rw [hw1]; exact box_cell (Below.refl _ _) rfl
  have R_3 : w1.cell? ⟨w.heap.size, 3, none⟩ = some (.int .i64 0) := by rw [hw1]; exact box_cell (Below.refl _ _) rfl
  have R_f0 : w1.frozen? ⟨w.heap.size, 0, none⟩ = false := by rw [hw1]; exact box_frozen (Below.refl _ _)
  have R_f1 : w1.frozen? ⟨w.heap.size, 1, none⟩ = false := by rw [hw1]; exact box_frozen (Below.refl _ _)
  have R_f2 : w1.frozen? ⟨w.heap.size, 2, none⟩ = false := by rw [hw1]; exact box_frozen (Below.refl _ _)
  have R_f3 : w1.frozen? ⟨w.heap.size, 3, none⟩ = false := by rw [hw1]; exact box_frozen (Below.refl _ _)
  have raw1_R_0 := R_0
  have raw1_R_1 := R_1
  have raw1_R_2 := R_2
  have raw1_R_3 := R_3
  have raw1_R_f0 := R_f0
  have raw1_R_f1 := R_f1
  have raw1_R_f2 := R_f2
  have raw1_R_f3 := R_f3
  rw [hw1] at raw1_R_0 raw1_R_1 raw1_R_2 raw1_R_3 raw1_R_f0 raw1_R_f1 raw1_R_f2 raw1_R_f3
  obtain ⟨w2, hw2⟩ : ∃ W, W = w1.alloc (.cells #[.string (ByteArray.mk #[114]), .string (ByteArray.mk #[115]), .string (ByteArray.mk #[116]), .string (ByteArray.mk #[117]), .string (ByteArray.mk #[118])] 9) := ⟨_, rfl⟩
  have z2 : Below w1.heap.size w1 w2 := by rw [hw2]; exact (Below.refl _ _).alloc (Nat.le_refl _) _
  have s2 : w2.heap.size = w1.heap.size + 1 := by rw [hw2]; simp
  have hb2 := turn_on' hb1 (z2.mono (by omega))
  replace HC := HC.below' z2 (by omega)
  replace R_0 := (z2.cell (p := ⟨w.heap.size, 0, none⟩) (by simp only []; omega)).trans R_0
  replace R_1 := (z2.cell (p := ⟨w.heap.size, 1, none⟩) (by simp only []; omega)).trans R_1
  replace R_2 := (z2.cell (p := ⟨w.heap.size, 2, none⟩) (by simp only []; omega)).trans R_2
  replace R_3 := (z2.cell (p := ⟨w.heap.size, 3, none⟩) (by simp only []; omega)).trans R_3
  replace R_f0 := (z2.frozen (p := ⟨w.heap.size, 0, none⟩) (by simp only []; omega)).trans R_f0
  replace R_f1 := (z2.frozen (p := ⟨w.heap.size, 1, none⟩) (by simp only []; omega)).trans R_f1
  replace R_f2 := (z2.frozen (p := ⟨w.heap.size, 2, none⟩) (by simp only []; omega)).trans R_f2
  replace R_f3 := (z2.frozen (p := ⟨w.heap.size, 3, none⟩) (by simp only []; omega)).trans R_f3
  have e2 : w1.heap.size = w.heap.size + 1 := by omega
  have L_0 : w2.cell? ⟨w1.heap.size, 0, none⟩ = some (.string (ByteArray.mk #[114])) := by rw [hw2]; exact box_cell (Below.refl _ _) rfl
  have L_1 : w2.cell? ⟨w1.heap.size, 1, none⟩ = some (.string (ByteArray.mk #[115])) := by rw [hw2]; exact box_cell (Below.refl _ _) rfl
  have L_2 : w2.cell? ⟨w1.heap.size, 2, none⟩ = some (.string (ByteArray.mk #[116])) := by rw [hw2]; exact box_cell (Below.refl _ _) rfl
  have L_3 : w2.cell? ⟨w1.heap.size, 3, none⟩ = some (.string (ByteArray.mk #[117])) := by rw [hw2]; exact box_cell (Below.refl _ _) rfl
  have L_4 : w2.cell? ⟨w1.heap.size, 4, none⟩ = some (.string (ByteArray.mk #[118])) := by rw [hw2]; exact box_cell (Below.refl _ _) rfl
  rw [e2] at L_0 L_1 L_2 L_3 L_4
  have raw2_R_0 := R_0
  have raw2_R_1 := R_1
  have raw2_R_2 := R_2
  have raw2_R_3 := R_3
  have raw2_R_f0 := R_f0
  have raw2_R_f1 := R_f1
  have raw2_R_f2 := R_f2
  have raw2_R_f3 := R_f3
  have raw2_L_0 := L_0
  have raw2_L_1 := L_1
  have raw2_L_2 := L_2
  have raw2_L_3 := L_3
  have raw2_L_4 := L_4
  rw [hw2, hw1] at raw2_R_0 raw2_R_1 raw2_R_2 raw2_R_3 raw2_R_f0 raw2_R_f1 raw2_R_f2 raw2_R_f3 raw2_L_0 raw2_L_1 raw2_L_2 raw2_L_3 raw2_L_4
  have HN : Hid (∀ i, i < 5 → ∃ s, s ∈ [ByteArray.mk #[114], ByteArray.mk #[115], ByteArray.mk #[116], ByteArray.mk #[117], ByteArray.mk #[118]] ∧ w2.cell? ⟨w.heap.size + 1, i, none⟩ = some (.string s)) := Lib.hid (fun i hi => by
    rcases (by omega : i = 0 ∨ i = 1 ∨ i = 2 ∨ i = 3 ∨ i = 4) with rfl | rfl | rfl | rfl | rfl
    · exact ⟨ByteArray.mk #[114], by simp, L_0⟩
    · exact ⟨ByteArray.mk #[115], by simp, L_1⟩
    · exact ⟨ByteArray.mk #[116], by simp, L_2⟩
    · exact ⟨ByteArray.mk #[117], by simp, L_3⟩
    · exact ⟨ByteArray.mk #[118], by simp, L_4⟩)
  clear L_0 L_1 L_2 L_3 L_4
  go_wp2_with fail
  rw [← hw1]
  rw [← hw2]
  clear hw2 hw1
  clear raw1_R_0 raw1_R_1 raw1_R_2 raw1_R_3 raw1_R_f0 raw1_R_f1 raw1_R_f2 raw1_R_f3 raw2_R_0 raw2_R_1 raw2_R_2 raw2_R_3 raw2_R_f0 raw2_R_f1 raw2_R_f2 raw2_R_f3 raw2_L_0 raw2_L_1 raw2_L_2 raw2_L_3 raw2_L_4
  have HC_o := HC
  clear HC
  refine (l1Pick_any _ cb ba bn bc _ 5 5 _ (by omega) (by omega) HN.out (by omega) HC_o).mono ?_
  rintro e w3 ⟨m1, rfl, hm1, HC, z3⟩
  clear HC_o
  have s4 := Nat.le_of_eq z3.size
  have s4' := Nat.le_of_eq z3.size.symm
  replace z3 := z3.turn
  have hb4 := hb2.trans z3
  replace R_0 := (z3.cell (p := ⟨w.heap.size, 0, none⟩) (by simp only []; omega) (by simp only []; omega)).trans R_0
  replace R_1 := (z3.cell (p := ⟨w.heap.size, 1, none⟩) (by simp only []; omega) (by simp only []; omega)).trans R_1
  replace R_2 := (z3.cell (p := ⟨w.heap.size, 2, none⟩) (by simp only []; omega) (by simp only []; omega)).trans R_2
  replace R_3 := (z3.cell (p := ⟨w.heap.size, 3, none⟩) (by simp only []; omega) (by simp only []; omega)).trans R_3
  replace R_f0 := (World.frozen?_of_block (a := ⟨w.heap.size, 0, none⟩) (z3.block _ (by simp only []; omega) (by simp only []; omega))).trans R_f0
  replace R_f1 := (World.frozen?_of_block (a := ⟨w.heap.size, 1, none⟩) (z3.block _ (by simp only []; omega) (by simp only []; omega))).trans R_f1
  replace R_f2 := (World.frozen?_of_block (a := ⟨w.heap.size, 2, none⟩) (z3.block _ (by simp only []; omega) (by simp only []; omega))).trans R_f2
  replace R_f3 := (World.frozen?_of_block (a := ⟨w.heap.size, 3, none⟩) (z3.block _ (by simp only []; omega) (by simp only []; omega))).trans R_f3
  have hsm1 : m1.size ≤ 5 := by
    simp only [List.mem_cons, List.not_mem_nil, or_false] at hm1
    rcases hm1 with rfl | rfl | rfl | rfl | rfl <;> decide
  clear hm1 HN
  go_wp2_with fail
  have HC_o := HC
  clear HC
  refine (l1Below_any _ cb ba bn bc 2 (by omega) HC_o).mono ?_
  rintro e w5 ⟨c1, rfl, hq0, hq1, hq2, HC, z5⟩
  clear HC_o
  have s6 := Nat.le_of_eq z5.size
  have s6' := Nat.le_of_eq z5.size.symm
  replace z5 := z5.turn
  have hb6 := hb4.trans z5
  replace R_0 := (z5.cell (p := ⟨w.heap.size, 0, none⟩) (by simp only []; omega) (by simp only []; omega)).trans R_0
  replace R_1 := (z5.cell (p := ⟨w.heap.size, 1, none⟩) (by simp only []; omega) (by simp only []; omega)).trans R_1
  replace R_2 := (z5.cell (p := ⟨w.heap.size, 2, none⟩) (by simp only []; omega) (by simp only []; omega)).trans R_2
  replace R_3 := (z5.cell (p := ⟨w.heap.size, 3, none⟩) (by simp only []; omega) (by simp only []; omega)).trans R_3
  replace R_f0 := (World.frozen?_of_block (a := ⟨w.heap.size, 0, none⟩) (z5.block _ (by simp only []; omega) (by simp only []; omega))).trans R_f0
  replace R_f1 := (World.frozen?_of_block (a := ⟨w.heap.size, 1, none⟩) (z5.block _ (by simp only []; omega) (by simp only []; omega))).trans R_f1
  replace R_f2 := (World.frozen?_of_block (a := ⟨w.heap.size, 2, none⟩) (z5.block _ (by simp only []; omega) (by simp only []; omega))).trans R_f2
  replace R_f3 := (World.frozen?_of_block (a := ⟨w.heap.size, 3, none⟩) (z5.block _ (by simp only []; omega) (by simp only []; omega))).trans R_f3
  have hc1 : I64 c1 := ⟨by omega, by omega⟩
  clear hq0 hq1 hq2
  obtain ⟨w7, hw7⟩ : ∃ W, W = w5.alloc (.cells #[.string (ByteArray.mk #[114]), .string (ByteArray.mk #[115]), .string (ByteArray.mk #[116]), .string (ByteArray.mk #[117]), .string (ByteArray.mk #[118])] 9) := ⟨_, rfl⟩
  have z7 : Below w5.heap.size w5 w7 := by rw [hw7]; exact (Below.refl _ _).alloc (Nat.le_refl _) _
  have s7 : w7.heap.size = w5.heap.size + 1 := by rw [hw7]; simp
  have hb7 := turn_on' hb6 (z7.mono (by omega))
  have old7_R_0 := R_0
  have old7_R_1 := R_1
  have old7_R_2 := R_2
  have old7_R_3 := R_3
  replace HC := HC.below' z7 (by omega)
  replace R_0 := (z7.cell (p := ⟨w.heap.size, 0, none⟩) (by simp only []; omega)).trans R_0
  replace R_1 := (z7.cell (p := ⟨w.heap.size, 1, none⟩) (by simp only []; omega)).trans R_1
  replace R_2 := (z7.cell (p := ⟨w.heap.size, 2, none⟩) (by simp only []; omega)).trans R_2
  replace R_3 := (z7.cell (p := ⟨w.heap.size, 3, none⟩) (by simp only []; omega)).trans R_3
  replace R_f0 := (z7.frozen (p := ⟨w.heap.size, 0, none⟩) (by simp only []; omega)).trans R_f0
  replace R_f1 := (z7.frozen (p := ⟨w.heap.size, 1, none⟩) (by simp only []; omega)).trans R_f1
  replace R_f2 := (z7.frozen (p := ⟨w.heap.size, 2, none⟩) (by simp only []; omega)).trans R_f2
  replace R_f3 := (z7.frozen (p := ⟨w.heap.size, 3, none⟩) (by simp only []; omega)).trans R_f3
  have M_0 : w7.cell? ⟨w5.heap.size, 0, none⟩ = some (.string (ByteArray.mk #[114])) := by rw [hw7]; exact box_cell (Below.refl _ _) rfl
  have M_1 : w7.cell? ⟨w5.heap.size, 1, none⟩ = some (.string (ByteArray.mk #[115])) := by rw [hw7]; exact box_cell (Below.refl _ _) rfl
  have M_2 : w7.cell? ⟨w5.heap.size, 2, none⟩ = some (.string (ByteArray.mk #[116])) := by rw [hw7]; exact box_cell (Below.refl _ _) rfl
  have M_3 : w7.cell? ⟨w5.heap.size, 3, none⟩ = some (.string (ByteArray.mk #[117])) := by rw [hw7]; exact box_cell (Below.refl _ _) rfl
  have M_4 : w7.cell? ⟨w5.heap.size, 4, none⟩ = some (.string (ByteArray.mk #[118])) := by rw [hw7]; exact box_cell (Below.refl _ _) rfl
  have raw7_R_0 := R_0
  have raw7_R_1 := R_1
  have raw7_R_2 := R_2
  have raw7_R_3 := R_3
  have raw7_R_f0 := R_f0
  have raw7_R_f1 := R_f1
  have raw7_R_f2 := R_f2
  have raw7_R_f3 := R_f3
  have raw7_M_0 := M_0
  have raw7_M_1 := M_1
  have raw7_M_2 := M_2
  have raw7_M_3 := M_3
  have raw7_M_4 := M_4
  rw [hw7] at raw7_R_0 raw7_R_1 raw7_R_2 raw7_R_3 raw7_R_f0 raw7_R_f1 raw7_R_f2 raw7_R_f3 raw7_M_0 raw7_M_1 raw7_M_2 raw7_M_3 raw7_M_4
  have HM : Hid (∀ i, i < 5 → ∃ s, s ∈ [ByteArray.mk #[114], ByteArray.mk #[115], ByteArray.mk #[116], ByteArray.mk #[117], ByteArray.mk #[118]] ∧ w7.cell? ⟨w5.heap.size, i, none⟩ = some (.string s)) := Lib.hid (fun i hi => by
    rcases (by omega : i = 0 ∨ i = 1 ∨ i = 2 ∨ i = 3 ∨ i = 4) with rfl | rfl | rfl | rfl | rfl
    · exact ⟨ByteArray.mk #[114], by simp, M_0⟩
    · exact ⟨ByteArray.mk #[115], by simp, M_1⟩
    · exact ⟨ByteArray.mk #[116], by simp, M_2⟩
    · exact ⟨ByteArray.mk #[117], by simp, M_3⟩
    · exact ⟨ByteArray.mk #[118], by simp, M_4⟩)
  clear M_0 M_1 M_2 M_3 M_4
  go_wp2_with fail
  rw [← hw7]
  clear hw7
  clear old7_R_0 old7_R_1 old7_R_2 old7_R_3 raw7_R_0 raw7_R_1 raw7_R_2 raw7_R_3 raw7_R_f0 raw7_R_f1 raw7_R_f2 raw7_R_f3 raw7_M_0 raw7_M_1 raw7_M_2 raw7_M_3 raw7_M_4
  have HC_o := HC
  clear HC
  refine (l1Pick_any _ cb ba bn bc _ 5 5 _ (by omega) (by omega) HM.out (by omega) HC_o).mono ?_
  rintro e w8 ⟨m2, rfl, hm2, HC, z8⟩
  clear HC_o
  have s9 := Nat.le_of_eq z8.size
  have s9' := Nat.le_of_eq z8.size.symm
  replace z8 := z8.turn
  have hb9 := hb7.trans z8
  replace R_0 := (z8.cell (p := ⟨w.heap.size, 0, none⟩) (by simp only []; omega) (by simp only []; omega)).trans R_0
  replace R_1 := (z8.cell (p := ⟨w.heap.size, 1, none⟩) (by simp only []; omega) (by simp only []; omega)).trans R_1
  replace R_2 := (z8.cell (p := ⟨w.heap.size, 2, none⟩) (by simp only []; omega) (by simp only []; omega)).trans R_2
  replace R_3 := (z8.cell (p := ⟨w.heap.size, 3, none⟩) (by simp only []; omega) (by simp only []; omega)).trans R_3
  replace R_f0 := (World.frozen?_of_block (a := ⟨w.heap.size, 0, none⟩) (z8.block _ (by simp only []; omega) (by simp only []; omega))).trans R_f0
  replace R_f1 := (World.frozen?_of_block (a := ⟨w.heap.size, 1, none⟩) (z8.block _ (by simp only []; omega) (by simp only []; omega))).trans R_f1
  replace R_f2 := (World.frozen?_of_block (a := ⟨w.heap.size, 2, none⟩) (z8.block _ (by simp only []; omega) (by simp only []; omega))).trans R_f2
  replace R_f3 := (World.frozen?_of_block (a := ⟨w.heap.size, 3, none⟩) (z8.block _ (by simp only []; omega) (by simp only []; omega))).trans R_f3
  have hsm2 : m2.size ≤ 5 := by
    simp only [List.mem_cons, List.not_mem_nil, or_false] at hm2
    rcases hm2 with rfl | rfl | rfl | rfl | rfl <;> decide
  clear hm2 HM
  go_wp2_with fail
  have HC_o := HC
  clear HC
  refine (l1Below_any _ cb ba bn bc 2 (by omega) HC_o).mono ?_
  rintro e w10 ⟨c2, rfl, hq0, hq1, hq2, HC, z10⟩
  clear HC_o
  have s11 := Nat.le_of_eq z10.size
  have s11' := Nat.le_of_eq z10.size.symm
  replace z10 := z10.turn
  have hb11 := hb9.trans z10
  replace R_0 := (z10.cell (p := ⟨w.heap.size, 0, none⟩) (by simp only []; omega) (by simp only []; omega)).trans R_0
  replace R_1 := (z10.cell (p := ⟨w.heap.size, 1, none⟩) (by simp only []; omega) (by simp only []; omega)).trans R_1
  replace R_2 := (z10.cell (p := ⟨w.heap.size, 2, none⟩) (by simp only []; omega) (by simp only []; omega)).trans R_2
  replace R_3 := (z10.cell (p := ⟨w.heap.size, 3, none⟩) (by simp only []; omega) (by simp only []; omega)).trans R_3
  replace R_f0 := (World.frozen?_of_block (a := ⟨w.heap.size, 0, none⟩) (z10.block _ (by simp only []; omega) (by simp only []; omega))).trans R_f0
  replace R_f1 := (World.frozen?_of_block (a := ⟨w.heap.size, 1, none⟩) (z10.block _ (by simp only []; omega) (by simp only []; omega))).trans R_f1
  replace R_f2 := (World.frozen?_of_block (a := ⟨w.heap.size, 2, none⟩) (z10.block _ (by simp only []; omega) (by simp only []; omega))).trans R_f2
  replace R_f3 := (World.frozen?_of_block (a := ⟨w.heap.size, 3, none⟩) (z10.block _ (by simp only []; omega) (by simp only []; omega))).trans R_f3
  have hc2 : I64 c2 := ⟨by omega, by omega⟩
  clear hq0 hq1 hq2
  have h0i : I64 0 := by constructor <;> decide
  cases g1 : (m1.toList == [118]) with
  | true =>
    cases g2 : (m2.toList == [118]) with
    | true =>
      obtain ⟨w12, hw12⟩ : ∃ W, W = w10.alloc (.cells #[.string m1, .int .i64 0, .string m2, .int .i64 0] 51) := ⟨_, rfl⟩
      have z12 : Below w10.heap.size w10 w12 := by rw [hw12]; exact (Below.refl _ _).alloc (Nat.le_refl _) _
      have s12 : w12.heap.size = w10.heap.size + 1 := by rw [hw12]; simp
      have hb12 := turn_on' hb11 (z12.mono (by omega))
      have old12_R_0 := R_0
      have old12_R_1 := R_1
      have old12_R_2 := R_2
      have old12_R_3 := R_3
      replace HC := HC.below' z12 (by omega)
      replace R_0 := (z12.cell (p := ⟨w.heap.size, 0, none⟩) (by simp only []; omega)).trans R_0
      replace R_1 := (z12.cell (p := ⟨w.heap.size, 1, none⟩) (by simp only []; omega)).trans R_1
      replace R_2 := (z12.cell (p := ⟨w.heap.size, 2, none⟩) (by simp only []; omega)).trans R_2
      replace R_3 := (z12.cell (p := ⟨w.heap.size, 3, none⟩) (by simp only []; omega)).trans R_3
      replace R_f0 := (z12.frozen (p := ⟨w.heap.size, 0, none⟩) (by simp only []; omega)).trans R_f0
      replace R_f1 := (z12.frozen (p := ⟨w.heap.size, 1, none⟩) (by simp only []; omega)).trans R_f1
      replace R_f2 := (z12.frozen (p := ⟨w.heap.size, 2, none⟩) (by simp only []; omega)).trans R_f2
      replace R_f3 := (z12.frozen (p := ⟨w.heap.size, 3, none⟩) (by simp only []; omega)).trans R_f3
      have X_0 : w12.cell? ⟨w10.heap.size, 0, none⟩ = some (.string m1) := by rw [hw12]; exact box_cell (Below.refl _ _) rfl
      have X_1 : w12.cell? ⟨w10.heap.size, 1, none⟩ = some (.int .i64 0) := by rw [hw12]; exact box_cell (Below.refl _ _) rfl
      have X_2 : w12.cell? ⟨w10.heap.size, 2, none⟩ = some (.string m2) := by rw [hw12]; exact box_cell (Below.refl _ _) rfl
      have X_3 : w12.cell? ⟨w10.heap.size, 3, none⟩ = some (.int .i64 0) := by rw [hw12]; exact box_cell (Below.refl _ _) rfl
      have X_f0 : w12.frozen? ⟨w10.heap.size, 0, none⟩ = false := by rw [hw12]; exact box_frozen (Below.refl _ _)
      have X_f1 : w12.frozen? ⟨w10.heap.size, 1, none⟩ = false := by rw [hw12]; exact box_frozen (Below.refl _ _)
      have X_f2 : w12.frozen? ⟨w10.heap.size, 2, none⟩ = false := by rw [hw12]; exact box_frozen (Below.refl _ _)
      have X_f3 : w12.frozen? ⟨w10.heap.size, 3, none⟩ = false := by rw [hw12]; exact box_frozen (Below.refl _ _)
      have raw12_R_0 := R_0
      have raw12_R_1 := R_1
      have raw12_R_2 := R_2
      have raw12_R_3 := R_3
      have raw12_R_f0 := R_f0
      have raw12_R_f1 := R_f1
      have raw12_R_f2 := R_f2
      have raw12_R_f3 := R_f3
      have raw12_X_0 := X_0
      have raw12_X_1 := X_1
      have raw12_X_2 := X_2
      have raw12_X_3 := X_3
      have raw12_X_f0 := X_f0
      have raw12_X_f1 := X_f1
      have raw12_X_f2 := X_f2
      have raw12_X_f3 := X_f3
      rw [hw12] at raw12_R_0 raw12_R_1 raw12_R_2 raw12_R_3 raw12_R_f0 raw12_R_f1 raw12_R_f2 raw12_R_f3 raw12_X_0 raw12_X_1 raw12_X_2 raw12_X_3 raw12_X_f0 raw12_X_f1 raw12_X_f2 raw12_X_f3
      go_wp2_with fail
      rw [← hw12]
      clear hw12
      clear old12_R_0 old12_R_1 old12_R_2 old12_R_3 raw12_R_0 raw12_R_1 raw12_R_2 raw12_R_3 raw12_R_f0 raw12_R_f1 raw12_R_f2 raw12_R_f3 raw12_X_0 raw12_X_1 raw12_X_2 raw12_X_3 raw12_X_f0 raw12_X_f1 raw12_X_f2 raw12_X_f3
      go_wp2_with fail
      have HC_o := HC
      clear HC
      refine (l1Once_any _ cb ba bn bc 14 (by omega) HC_o).mono ?_
      rintro e w13 ⟨t, rfl, HC, z13⟩
      clear HC_o
      have s14 := Nat.le_of_eq z13.size
      have s14' := Nat.le_of_eq z13.size.symm
      replace z13 := z13.turn
      have hb14 := hb12.trans z13
      replace R_0 := (z13.cell (p := ⟨w.heap.size, 0, none⟩) (by simp only []; omega) (by simp only []; omega)).trans R_0
      replace R_1 := (z13.cell (p := ⟨w.heap.size, 1, none⟩) (by simp only []; omega) (by simp only []; omega)).trans R_1
      replace R_2 := (z13.cell (p := ⟨w.heap.size, 2, none⟩) (by simp only []; omega) (by simp only []; omega)).trans R_2
      replace R_3 := (z13.cell (p := ⟨w.heap.size, 3, none⟩) (by simp only []; omega) (by simp only []; omega)).trans R_3
      replace R_f0 := (World.frozen?_of_block (a := ⟨w.heap.size, 0, none⟩) (z13.block _ (by simp only []; omega) (by simp only []; omega))).trans R_f0
      replace R_f1 := (World.frozen?_of_block (a := ⟨w.heap.size, 1, none⟩) (z13.block _ (by simp only []; omega) (by simp only []; omega))).trans R_f1
      replace R_f2 := (World.frozen?_of_block (a := ⟨w.heap.size, 2, none⟩) (z13.block _ (by simp only []; omega) (by simp only []; omega))).trans R_f2
      replace R_f3 := (World.frozen?_of_block (a := ⟨w.heap.size, 3, none⟩) (z13.block _ (by simp only []; omega) (by simp only []; omega))).trans R_f3
      replace X_0 := (z13.cell (p := ⟨w10.heap.size, 0, none⟩) (by simp only []; omega) (by simp only []; omega)).trans X_0
      replace X_1 := (z13.cell (p := ⟨w10.heap.size, 1, none⟩) (by simp only []; omega) (by simp only []; omega)).trans X_1
      replace X_2 := (z13.cell (p := ⟨w10.heap.size, 2, none⟩) (by simp only []; omega) (by simp only []; omega)).trans X_2
      replace X_3 := (z13.cell (p := ⟨w10.heap.size, 3, none⟩) (by simp only []; omega) (by simp only []; omega)).trans X_3
      replace X_f0 := (World.frozen?_of_block (a := ⟨w10.heap.size, 0, none⟩) (z13.block _ (by simp only []; omega) (by simp only []; omega))).trans X_f0
      replace X_f1 := (World.frozen?_of_block (a := ⟨w10.heap.size, 1, none⟩) (z13.block _ (by simp only []; omega) (by simp only []; omega))).trans X_f1
      replace X_f2 := (World.frozen?_of_block (a := ⟨w10.heap.size, 2, none⟩) (z13.block _ (by simp only []; omega) (by simp only []; omega))).trans X_f2
      replace X_f3 := (World.frozen?_of_block (a := ⟨w10.heap.size, 3, none⟩) (z13.block _ (by simp only []; omega) (by simp only []; omega))).trans X_f3
      cases t with
      | false =>
        go_wp2_with fail
        refine bodyPost_ret (v := .agg #[.string m1, .int .i64 0, .string m2, .int .i64 0]) (by simp [results, Tryd.results95, go_sem, R_0, R_1, R_2, R_3, R_f0, R_f1, R_f2, R_f3]) rfl ⟨m1, 0, m2, 0, rfl, ⟨hsm1, hsm2, h0i, h0i⟩, ?_, ?_⟩
        · refine Cur.below' (C := w.heap.size) HC ?_ hcb
          repeat (refine Below.setCell ?_ (by simp only []; omega) _)
          exact Below.refl _ _
        · refine turn_on' hb14 ?_
          repeat (refine Below.setCell ?_ (by simp only []; omega) _)
          exact Below.refl _ _
      | true =>
        have h2 := ints_litD w13 [-1, 3] (i64_litsD (by decide)) (by simp)
        obtain ⟨w15, hw15⟩ : ∃ W, W = w13.alloc (.cells #[.int .i64 (-1), .int .i64 3] 3) := ⟨_, rfl⟩
        have z15 : Below w13.heap.size w13 w15 := by rw [hw15]; exact (Below.refl _ _).alloc (Nat.le_refl _) _
        have s15 : w15.heap.size = w13.heap.size + 1 := by rw [hw15]; simp
        have hb15 := turn_on' hb14 (z15.mono (by omega))
        have old15_R_0 := R_0
        have old15_R_1 := R_1
        have old15_R_2 := R_2
        have old15_R_3 := R_3
        have old15_X_0 := X_0
        have old15_X_1 := X_1
        have old15_X_2 := X_2
        have old15_X_3 := X_3
        replace HC := HC.below' z15 (by omega)
        replace R_0 := (z15.cell (p := ⟨w.heap.size, 0, none⟩) (by simp only []; omega)).trans R_0
        replace R_1 := (z15.cell (p := ⟨w.heap.size, 1, none⟩) (by simp only []; omega)).trans R_1
        replace R_2 := (z15.cell (p := ⟨w.heap.size, 2, none⟩) (by simp only []; omega)).trans R_2
        replace R_3 := (z15.cell (p := ⟨w.heap.size, 3, none⟩) (by simp only []; omega)).trans R_3
        replace R_f0 := (z15.frozen (p := ⟨w.heap.size, 0, none⟩) (by simp only []; omega)).trans R_f0
        replace R_f1 := (z15.frozen (p := ⟨w.heap.size, 1, none⟩) (by simp only []; omega)).trans R_f1
        replace R_f2 := (z15.frozen (p := ⟨w.heap.size, 2, none⟩) (by simp only []; omega)).trans R_f2
        replace R_f3 := (z15.frozen (p := ⟨w.heap.size, 3, none⟩) (by simp only []; omega)).trans R_f3
        replace X_0 := (z15.cell (p := ⟨w10.heap.size, 0, none⟩) (by simp only []; omega)).trans X_0
        replace X_1 := (z15.cell (p := ⟨w10.heap.size, 1, none⟩) (by simp only []; omega)).trans X_1
        replace X_2 := (z15.cell (p := ⟨w10.heap.size, 2, none⟩) (by simp only []; omega)).trans X_2
        replace X_3 := (z15.cell (p := ⟨w10.heap.size, 3, none⟩) (by simp only []; omega)).trans X_3
        replace X_f0 := (z15.frozen (p := ⟨w10.heap.size, 0, none⟩) (by simp only []; omega)).trans X_f0
        replace X_f1 := (z15.frozen (p := ⟨w10.heap.size, 1, none⟩) (by simp only []; omega)).trans X_f1
        replace X_f2 := (z15.frozen (p := ⟨w10.heap.size, 2, none⟩) (by simp only []; omega)).trans X_f2
        replace X_f3 := (z15.frozen (p := ⟨w10.heap.size, 3, none⟩) (by simp only []; omega)).trans X_f3
        have P_0 : w15.cell? ⟨w13.heap.size, 0, none⟩ = some (.int .i64 (-1)) := by rw [hw15]; exact box_cell (Below.refl _ _) rfl
        have P_1 : w15.cell? ⟨w13.heap.size, 1, none⟩ = some (.int .i64 3) := by rw [hw15]; exact box_cell (Below.refl _ _) rfl
        have raw15_R_0 := R_0
        have raw15_R_1 := R_1
        have raw15_R_2 := R_2
        have raw15_R_3 := R_3
        have raw15_R_f0 := R_f0
        have raw15_R_f1 := R_f1
        have raw15_R_f2 := R_f2
        have raw15_R_f3 := R_f3
        have raw15_X_0 := X_0
        have raw15_X_1 := X_1
        have raw15_X_2 := X_2
        have raw15_X_3 := X_3
        have raw15_X_f0 := X_f0
        have raw15_X_f1 := X_f1
        have raw15_X_f2 := X_f2
        have raw15_X_f3 := X_f3
        have raw15_P_0 := P_0
        have raw15_P_1 := P_1
        rw [hw15] at raw15_R_0 raw15_R_1 raw15_R_2 raw15_R_3 raw15_R_f0 raw15_R_f1 raw15_R_f2 raw15_R_f3 raw15_X_0 raw15_X_1 raw15_X_2 raw15_X_3 raw15_X_f0 raw15_X_f1 raw15_X_f2 raw15_X_f3 raw15_P_0 raw15_P_1
        replace h2 : Ints w15 (some ⟨w13.heap.size, 0, none⟩) 2 [-1, 3] := by rw [hw15]; exact h2
        clear P_0 P_1
        go_wp2_with fail
        rw [← hw15]
        clear hw15
        clear old15_R_0 old15_R_1 old15_R_2 old15_R_3 old15_X_0 old15_X_1 old15_X_2 old15_X_3 raw15_R_0 raw15_R_1 raw15_R_2 raw15_R_3 raw15_R_f0 raw15_R_f1 raw15_R_f2 raw15_R_f3 raw15_X_0 raw15_X_1 raw15_X_2 raw15_X_3 raw15_X_f0 raw15_X_f1 raw15_X_f2 raw15_X_f3 raw15_P_0 raw15_P_1
        have HC_o := HC
        clear HC
        refine (l1PickInt_any _ cb ba bn bc _ 2 2 _ (by omega) (by omega) h2 (by omega) HC_o).mono ?_
        rintro e w16 ⟨y, rfl, hy, HC, z16⟩
        clear HC_o
        have s17 := Nat.le_of_eq z16.size
        have s17' := Nat.le_of_eq z16.size.symm
        replace z16 := z16.turn
        have hb17 := hb15.trans z16
        replace R_0 := (z16.cell (p := ⟨w.heap.size, 0, none⟩) (by simp only []; omega) (by simp only []; omega)).trans R_0
        replace R_1 := (z16.cell (p := ⟨w.heap.size, 1, none⟩) (by simp only []; omega) (by simp only []; omega)).trans R_1
        replace R_2 := (z16.cell (p := ⟨w.heap.size, 2, none⟩) (by simp only []; omega) (by simp only []; omega)).trans R_2
        replace R_3 := (z16.cell (p := ⟨w.heap.size, 3, none⟩) (by simp only []; omega) (by simp only []; omega)).trans R_3
        replace R_f0 := (World.frozen?_of_block (a := ⟨w.heap.size, 0, none⟩) (z16.block _ (by simp only []; omega) (by simp only []; omega))).trans R_f0
        replace R_f1 := (World.frozen?_of_block (a := ⟨w.heap.size, 1, none⟩) (z16.block _ (by simp only []; omega) (by simp only []; omega))).trans R_f1
        replace R_f2 := (World.frozen?_of_block (a := ⟨w.heap.size, 2, none⟩) (z16.block _ (by simp only []; omega) (by simp only []; omega))).trans R_f2
        replace R_f3 := (World.frozen?_of_block (a := ⟨w.heap.size, 3, none⟩) (z16.block _ (by simp only []; omega) (by simp only []; omega))).trans R_f3
        replace X_0 := (z16.cell (p := ⟨w10.heap.size, 0, none⟩) (by simp only []; omega) (by simp only []; omega)).trans X_0
        replace X_1 := (z16.cell (p := ⟨w10.heap.size, 1, none⟩) (by simp only []; omega) (by simp only []; omega)).trans X_1
        replace X_2 := (z16.cell (p := ⟨w10.heap.size, 2, none⟩) (by simp only []; omega) (by simp only []; omega)).trans X_2
        replace X_3 := (z16.cell (p := ⟨w10.heap.size, 3, none⟩) (by simp only []; omega) (by simp only []; omega)).trans X_3
        replace X_f0 := (World.frozen?_of_block (a := ⟨w10.heap.size, 0, none⟩) (z16.block _ (by simp only []; omega) (by simp only []; omega))).trans X_f0
        replace X_f1 := (World.frozen?_of_block (a := ⟨w10.heap.size, 1, none⟩) (z16.block _ (by simp only []; omega) (by simp only []; omega))).trans X_f1
        replace X_f2 := (World.frozen?_of_block (a := ⟨w10.heap.size, 2, none⟩) (z16.block _ (by simp only []; omega) (by simp only []; omega))).trans X_f2
        replace X_f3 := (World.frozen?_of_block (a := ⟨w10.heap.size, 3, none⟩) (z16.block _ (by simp only []; omega) (by simp only []; omega))).trans X_f3
        have hy64 : I64 y := i64_litsD (by decide) y hy
        clear h2 hy
        go_wp2_with fail
        refine bodyPost_ret (v := .agg #[.string m1, .int .i64 y, .string m2, .int .i64 0]) (by simp [results, Tryd.results95, go_sem, R_0, R_1, R_2, R_3, R_f0, R_f1, R_f2, R_f3]) rfl ⟨m1, y, m2, 0, rfl, ⟨hsm1, hsm2, hy64, h0i⟩, ?_, ?_⟩
        · refine Cur.below' (C := w.heap.size) HC ?_ hcb
          repeat (refine Below.setCell ?_ (by simp only []; omega) _)
          exact Below.refl _ _
        · refine turn_on' hb17 ?_
          repeat (refine Below.setCell ?_ (by simp only []; omega) _)
          exact Below.refl _ _
    | false =>
      obtain ⟨w18, hw18⟩ : ∃ W, W = w10.alloc (.cells #[.string m1, .int .i64 0, .string m2, .int .i64 c2] 51) := ⟨_, rfl⟩
      have z18 : Below w10.heap.size w10 w18 := by rw [hw18]; exact (Below.refl _ _).alloc (Nat.le_refl _) _
      have s18 : w18.heap.size = w10.heap.size + 1 := by rw [hw18]; simp
      have hb18 := turn_on' hb11 (z18.mono (by omega))
      have old18_R_0 := R_0
      have old18_R_1 := R_1
      have old18_R_2 := R_2
      have old18_R_3 := R_3
      replace HC := HC.below' z18 (by omega)
      replace R_0 := (z18.cell (p := ⟨w.heap.size, 0, none⟩) (by simp only []; omega)).trans R_0
      replace R_1 := (z18.cell (p := ⟨w.heap.size, 1, none⟩) (by simp only []; omega)).trans R_1
      replace R_2 := (z18.cell (p := ⟨w.heap.size, 2, none⟩) (by simp only []; omega)).trans R_2
      replace R_3 := (z18.cell (p := ⟨w.heap.size, 3, none⟩) (by simp only []; omega)).trans R_3
      replace R_f0 := (z18.frozen (p := ⟨w.heap.size, 0, none⟩) (by simp only []; omega)).trans R_f0
      replace R_f1 := (z18.frozen (p := ⟨w.heap.size, 1, none⟩) (by simp only []; omega)).trans R_f1
      replace R_f2 := (z18.frozen (p := ⟨w.heap.size, 2, none⟩) (by simp only []; omega)).trans R_f2
      replace R_f3 := (z18.frozen (p := ⟨w.heap.size, 3, none⟩) (by simp only []; omega)).trans R_f3
      have X_0 : w18.cell? ⟨w10.heap.size, 0, none⟩ = some (.string m1) := by rw [hw18]; exact box_cell (Below.refl _ _) rfl
      have X_1 : w18.cell? ⟨w10.heap.size, 1, none⟩ = some (.int .i64 0) := by rw [hw18]; exact box_cell (Below.refl _ _) rfl
      have X_2 : w18.cell? ⟨w10.heap.size, 2, none⟩ = some (.string m2) := by rw [hw18]; exact box_cell (Below.refl _ _) rfl
      have X_3 : w18.cell? ⟨w10.heap.size, 3, none⟩ = some (.int .i64 c2) := by rw [hw18]; exact box_cell (Below.refl _ _) rfl
      have X_f0 : w18.frozen? ⟨w10.heap.size, 0, none⟩ = false := by rw [hw18]; exact box_frozen (Below.refl _ _)
      have X_f1 : w18.frozen? ⟨w10.heap.size, 1, none⟩ = false := by rw [hw18]; exact box_frozen (Below.refl _ _)
      have X_f2 : w18.frozen? ⟨w10.heap.size, 2, none⟩ = false := by rw [hw18]; exact box_frozen (Below.refl _ _)
      have X_f3 : w18.frozen? ⟨w10.heap.size, 3, none⟩ = false := by rw [hw18]; exact box_frozen (Below.refl _ _)
      have raw18_R_0 := R_0
      have raw18_R_1 := R_1
      have raw18_R_2 := R_2
      have raw18_R_3 := R_3
      have raw18_R_f0 := R_f0
      have raw18_R_f1 := R_f1
      have raw18_R_f2 := R_f2
      have raw18_R_f3 := R_f3
      have raw18_X_0 := X_0
      have raw18_X_1 := X_1
      have raw18_X_2 := X_2
      have raw18_X_3 := X_3
      have raw18_X_f0 := X_f0
      have raw18_X_f1 := X_f1
      have raw18_X_f2 := X_f2
      have raw18_X_f3 := X_f3
      rw [hw18] at raw18_R_0 raw18_R_1 raw18_R_2 raw18_R_3 raw18_R_f0 raw18_R_f1 raw18_R_f2 raw18_R_f3 raw18_X_0 raw18_X_1 raw18_X_2 raw18_X_3 raw18_X_f0 raw18_X_f1 raw18_X_f2 raw18_X_f3
      go_wp2_with fail
      rw [← hw18]
      clear hw18
      clear old18_R_0 old18_R_1 old18_R_2 old18_R_3 raw18_R_0 raw18_R_1 raw18_R_2 raw18_R_3 raw18_R_f0 raw18_R_f1 raw18_R_f2 raw18_R_f3 raw18_X_0 raw18_X_1 raw18_X_2 raw18_X_3 raw18_X_f0 raw18_X_f1 raw18_X_f2 raw18_X_f3
      go_wp2_with fail
      have HC_o := HC
      clear HC
      refine (l1Once_any _ cb ba bn bc 14 (by omega) HC_o).mono ?_
      rintro e w19 ⟨t, rfl, HC, z19⟩
      clear HC_o
      have s20 := Nat.le_of_eq z19.size
      have s20' := Nat.le_of_eq z19.size.symm
      replace z19 := z19.turn
      have hb20 := hb18.trans z19
      replace R_0 := (z19.cell (p := ⟨w.heap.size, 0, none⟩) (by simp only []; omega) (by simp only []; omega)).trans R_0
      replace R_1 := (z19.cell (p := ⟨w.heap.size, 1, none⟩) (by simp only []; omega) (by simp only []; omega)).trans R_1
      replace R_2 := (z19.cell (p := ⟨w.heap.size, 2, none⟩) (by simp only []; omega) (by simp only []; omega)).trans R_2
      replace R_3 := (z19.cell (p := ⟨w.heap.size, 3, none⟩) (by simp only []; omega) (by simp only []; omega)).trans R_3
      replace R_f0 := (World.frozen?_of_block (a := ⟨w.heap.size, 0, none⟩) (z19.block _ (by simp only []; omega) (by simp only []; omega))).trans R_f0
      replace R_f1 := (World.frozen?_of_block (a := ⟨w.heap.size, 1, none⟩) (z19.block _ (by simp only []; omega) (by simp only []; omega))).trans R_f1
      replace R_f2 := (World.frozen?_of_block (a := ⟨w.heap.size, 2, none⟩) (z19.block _ (by simp only []; omega) (by simp only []; omega))).trans R_f2
      replace R_f3 := (World.frozen?_of_block (a := ⟨w.heap.size, 3, none⟩) (z19.block _ (by simp only []; omega) (by simp only []; omega))).trans R_f3
      replace X_0 := (z19.cell (p := ⟨w10.heap.size, 0, none⟩) (by simp only []; omega) (by simp only []; omega)).trans X_0
      replace X_1 := (z19.cell (p := ⟨w10.heap.size, 1, none⟩) (by simp only []; omega) (by simp only []; omega)).trans X_1
      replace X_2 := (z19.cell (p := ⟨w10.heap.size, 2, none⟩) (by simp only []; omega) (by simp only []; omega)).trans X_2
      replace X_3 := (z19.cell (p := ⟨w10.heap.size, 3, none⟩) (by simp only []; omega) (by simp only []; omega)).trans X_3
      replace X_f0 := (World.frozen?_of_block (a := ⟨w10.heap.size, 0, none⟩) (z19.block _ (by simp only []; omega) (by simp only []; omega))).trans X_f0
      replace X_f1 := (World.frozen?_of_block (a := ⟨w10.heap.size, 1, none⟩) (z19.block _ (by simp only []; omega) (by simp only []; omega))).trans X_f1
      replace X_f2 := (World.frozen?_of_block (a := ⟨w10.heap.size, 2, none⟩) (z19.block _ (by simp only []; omega) (by simp only []; omega))).trans X_f2
      replace X_f3 := (World.frozen?_of_block (a := ⟨w10.heap.size, 3, none⟩) (z19.block _ (by simp only []; omega) (by simp only []; omega))).trans X_f3
      cases t with
      | false =>
        go_wp2_with fail
        refine bodyPost_ret (v := .agg #[.string m1, .int .i64 0, .string m2, .int .i64 c2]) (by simp [results, Tryd.results95, go_sem, R_0, R_1, R_2, R_3, R_f0, R_f1, R_f2, R_f3]) rfl ⟨m1, 0, m2, c2, rfl, ⟨hsm1, hsm2, h0i, hc2⟩, ?_, ?_⟩
        · refine Cur.below' (C := w.heap.size) HC ?_ hcb
          repeat (refine Below.setCell ?_ (by simp only []; omega) _)
          exact Below.refl _ _
        · refine turn_on' hb20 ?_
          repeat (refine Below.setCell ?_ (by simp only []; omega) _)
          exact Below.refl _ _
      | true =>
        have h2 := ints_litD w19 [-1, 3] (i64_litsD (by decide)) (by simp)
        obtain ⟨w21, hw21⟩ : ∃ W, W = w19.alloc (.cells #[.int .i64 (-1), .int .i64 3] 3) := ⟨_, rfl⟩
        have z21 : Below w19.heap.size w19 w21 := by rw [hw21]; exact (Below.refl _ _).alloc (Nat.le_refl _) _
        have s21 : w21.heap.size = w19.heap.size + 1 := by rw [hw21]; simp
        have hb21 := turn_on' hb20 (z21.mono (by omega))
        have old21_R_0 := R_0
        have old21_R_1 := R_1
        have old21_R_2 := R_2
        have old21_R_3 := R_3
        have old21_X_0 := X_0
        have old21_X_1 := X_1
        have old21_X_2 := X_2
        have old21_X_3 := X_3
        replace HC := HC.below' z21 (by omega)
        replace R_0 := (z21.cell (p := ⟨w.heap.size, 0, none⟩) (by simp only []; omega)).trans R_0
        replace R_1 := (z21.cell (p := ⟨w.heap.size, 1, none⟩) (by simp only []; omega)).trans R_1
        replace R_2 := (z21.cell (p := ⟨w.heap.size, 2, none⟩) (by simp only []; omega)).trans R_2
        replace R_3 := (z21.cell (p := ⟨w.heap.size, 3, none⟩) (by simp only []; omega)).trans R_3
        replace R_f0 := (z21.frozen (p := ⟨w.heap.size, 0, none⟩) (by simp only []; omega)).trans R_f0
        replace R_f1 := (z21.frozen (p := ⟨w.heap.size, 1, none⟩) (by simp only []; omega)).trans R_f1
        replace R_f2 := (z21.frozen (p := ⟨w.heap.size, 2, none⟩) (by simp only []; omega)).trans R_f2
        replace R_f3 := (z21.frozen (p := ⟨w.heap.size, 3, none⟩) (by simp only []; omega)).trans R_f3
        replace X_0 := (z21.cell (p := ⟨w10.heap.size, 0, none⟩) (by simp only []; omega)).trans X_0
        replace X_1 := (z21.cell (p := ⟨w10.heap.size, 1, none⟩) (by simp only []; omega)).trans X_1
        replace X_2 := (z21.cell (p := ⟨w10.heap.size, 2, none⟩) (by simp only []; omega)).trans X_2
        replace X_3 := (z21.cell (p := ⟨w10.heap.size, 3, none⟩) (by simp only []; omega)).trans X_3
        replace X_f0 := (z21.frozen (p := ⟨w10.heap.size, 0, none⟩) (by simp only []; omega)).trans X_f0
        replace X_f1 := (z21.frozen (p := ⟨w10.heap.size, 1, none⟩) (by simp only []; omega)).trans X_f1
        replace X_f2 := (z21.frozen (p := ⟨w10.heap.size, 2, none⟩) (by simp only []; omega)).trans X_f2
        replace X_f3 := (z21.frozen (p := ⟨w10.heap.size, 3, none⟩) (by simp only []; omega)).trans X_f3
        have P_0 : w21.cell? ⟨w19.heap.size, 0, none⟩ = some (.int .i64 (-1)) := by rw [hw21]; exact box_cell (Below.refl _ _) rfl
        have P_1 : w21.cell? ⟨w19.heap.size, 1, none⟩ = some (.int .i64 3) := by rw [hw21]; exact box_cell (Below.refl _ _) rfl
        have raw21_R_0 := R_0
        have raw21_R_1 := R_1
        have raw21_R_2 := R_2
        have raw21_R_3 := R_3
        have raw21_R_f0 := R_f0
        have raw21_R_f1 := R_f1
        have raw21_R_f2 := R_f2
        have raw21_R_f3 := R_f3
        have raw21_X_0 := X_0
        have raw21_X_1 := X_1
        have raw21_X_2 := X_2
        have raw21_X_3 := X_3
        have raw21_X_f0 := X_f0
        have raw21_X_f1 := X_f1
        have raw21_X_f2 := X_f2
        have raw21_X_f3 := X_f3
        have raw21_P_0 := P_0
        have raw21_P_1 := P_1
        rw [hw21] at raw21_R_0 raw21_R_1 raw21_R_2 raw21_R_3 raw21_R_f0 raw21_R_f1 raw21_R_f2 raw21_R_f3 raw21_X_0 raw21_X_1 raw21_X_2 raw21_X_3 raw21_X_f0 raw21_X_f1 raw21_X_f2 raw21_X_f3 raw21_P_0 raw21_P_1
        replace h2 : Ints w21 (some ⟨w19.heap.size, 0, none⟩) 2 [-1, 3] := by rw [hw21]; exact h2
        clear P_0 P_1
        go_wp2_with fail
        rw [← hw21]
        clear hw21
        clear old21_R_0 old21_R_1 old21_R_2 old21_R_3 old21_X_0 old21_X_1 old21_X_2 old21_X_3 raw21_R_0 raw21_R_1 raw21_R_2 raw21_R_3 raw21_R_f0 raw21_R_f1 raw21_R_f2 raw21_R_f3 raw21_X_0 raw21_X_1 raw21_X_2 raw21_X_3 raw21_X_f0 raw21_X_f1 raw21_X_f2 raw21_X_f3 raw21_P_0 raw21_P_1
        have HC_o := HC
        clear HC
        refine (l1PickInt_any _ cb ba bn bc _ 2 2 _ (by omega) (by omega) h2 (by omega) HC_o).mono ?_
        rintro e w22 ⟨y, rfl, hy, HC, z22⟩
        clear HC_o
        have s23 := Nat.le_of_eq z22.size
        have s23' := Nat.le_of_eq z22.size.symm
        replace z22 := z22.turn
        have hb23 := hb21.trans z22
        replace R_0 := (z22.cell (p := ⟨w.heap.size, 0, none⟩) (by simp only []; omega) (by simp only []; omega)).trans R_0
        replace R_1 := (z22.cell (p := ⟨w.heap.size, 1, none⟩) (by simp only []; omega) (by simp only []; omega)).trans R_1
        replace R_2 := (z22.cell (p := ⟨w.heap.size, 2, none⟩) (by simp only []; omega) (by simp only []; omega)).trans R_2
        replace R_3 := (z22.cell (p := ⟨w.heap.size, 3, none⟩) (by simp only []; omega) (by simp only []; omega)).trans R_3
        replace R_f0 := (World.frozen?_of_block (a := ⟨w.heap.size, 0, none⟩) (z22.block _ (by simp only []; omega) (by simp only []; omega))).trans R_f0
        replace R_f1 := (World.frozen?_of_block (a := ⟨w.heap.size, 1, none⟩) (z22.block _ (by simp only []; omega) (by simp only []; omega))).trans R_f1
        replace R_f2 := (World.frozen?_of_block (a := ⟨w.heap.size, 2, none⟩) (z22.block _ (by simp only []; omega) (by simp only []; omega))).trans R_f2
        replace R_f3 := (World.frozen?_of_block (a := ⟨w.heap.size, 3, none⟩) (z22.block _ (by simp only []; omega) (by simp only []; omega))).trans R_f3
        replace X_0 := (z22.cell (p := ⟨w10.heap.size, 0, none⟩) (by simp only []; omega) (by simp only []; omega)).trans X_0
        replace X_1 := (z22.cell (p := ⟨w10.heap.size, 1, none⟩) (by simp only []; omega) (by simp only []; omega)).trans X_1
        replace X_2 := (z22.cell (p := ⟨w10.heap.size, 2, none⟩) (by simp only []; omega) (by simp only []; omega)).trans X_2
        replace X_3 := (z22.cell (p := ⟨w10.heap.size, 3, none⟩) (by simp only []; omega) (by simp only []; omega)).trans X_3
        replace X_f0 := (World.frozen?_of_block (a := ⟨w10.heap.size, 0, none⟩) (z22.block _ (by simp only []; omega) (by simp only []; omega))).trans X_f0
        replace X_f1 := (World.frozen?_of_block (a := ⟨w10.heap.size, 1, none⟩) (z22.block _ (by simp only []; omega) (by simp only []; omega))).trans X_f1
        replace X_f2 := (World.frozen?_of_block (a := ⟨w10.heap.size, 2, none⟩) (z22.block _ (by simp only []; omega) (by simp only []; omega))).trans X_f2
        replace X_f3 := (World.frozen?_of_block (a := ⟨w10.heap.size, 3, none⟩) (z22.block _ (by simp only []; omega) (by simp only []; omega))).trans X_f3
        have hy64 : I64 y := i64_litsD (by decide) y hy
        clear h2 hy
        go_wp2_with fail
        refine bodyPost_ret (v := .agg #[.string m1, .int .i64 y, .string m2, .int .i64 c2]) (by simp [results, Tryd.results95, go_sem, R_0, R_1, R_2, R_3, R_f0, R_f1, R_f2, R_f3]) rfl ⟨m1, y, m2, c2, rfl, ⟨hsm1, hsm2, hy64, hc2⟩, ?_, ?_⟩
        · refine Cur.below' (C := w.heap.size) HC ?_ hcb
          repeat (refine Below.setCell ?_ (by simp only []; omega) _)
          exact Below.refl _ _
        · refine turn_on' hb23 ?_
          repeat (refine Below.setCell ?_ (by simp only []; omega) _)
          exact Below.refl _ _
  | false =>
    cases g2 : (m2.toList == [118]) with
    | true =>
      obtain ⟨w24, hw24⟩ : ∃ W, W = w10.alloc (.cells #[.string m1, .int .i64 c1, .string m2, .int .i64 0] 51) := ⟨_, rfl⟩
      have z24 : Below w10.heap.size w10 w24 := by rw [hw24]; exact (Below.refl _ _).alloc (Nat.le_refl _) _
      have s24 : w24.heap.size = w10.heap.size + 1 := by rw [hw24]; simp
      have hb24 := turn_on' hb11 (z24.mono (by omega))
      have old24_R_0 := R_0
      have old24_R_1 := R_1
      have old24_R_2 := R_2
      have old24_R_3 := R_3
      replace HC := HC.below' z24 (by omega)
      replace R_0 := (z24.cell (p := ⟨w.heap.size, 0, none⟩) (by simp only []; omega)).trans R_0
      replace R_1 := (z24.cell (p := ⟨w.heap.size, 1, none⟩) (by simp only []; omega)).trans R_1
      replace R_2 := (z24.cell (p := ⟨w.heap.size, 2, none⟩) (by simp only []; omega)).trans R_2
      replace R_3 := (z24.cell (p := ⟨w.heap.size, 3, none⟩) (by simp only []; omega)).trans R_3
      replace R_f0 := (z24.frozen (p := ⟨w.heap.size, 0, none⟩) (by simp only []; omega)).trans R_f0
      replace R_f1 := (z24.frozen (p := ⟨w.heap.size, 1, none⟩) (by simp only []; omega)).trans R_f1
      replace R_f2 := (z24.frozen (p := ⟨w.heap.size, 2, none⟩) (by simp only []; omega)).trans R_f2
      replace R_f3 := (z24.frozen (p := ⟨w.heap.size, 3, none⟩) (by simp only []; omega)).trans R_f3
      have X_0 : w24.cell? ⟨w10.heap.size, 0, none⟩ = some (.string m1) := by rw [hw24]; exact box_cell (Below.refl _ _) rfl
      have X_1 : w24.cell? ⟨w10.heap.size, 1, none⟩ = some (.int .i64 c1) := by rw [hw24]; exact box_cell (Below.refl _ _) rfl
      have X_2 : w24.cell? ⟨w10.heap.size, 2, none⟩ = some (.string m2) := by rw [hw24]; exact box_cell (Below.refl _ _) rfl
      have X_3 : w24.cell? ⟨w10.heap.size, 3, none⟩ = some (.int .i64 0) := by rw [hw24]; exact box_cell (Below.refl _ _) rfl
      have X_f0 : w24.frozen? ⟨w10.heap.size, 0, none⟩ = false := by rw [hw24]; exact box_frozen (Below.refl _ _)
      have X_f1 : w24.frozen? ⟨w10.heap.size, 1, none⟩ = false := by rw [hw24]; exact box_frozen (Below.refl _ _)
      have X_f2 : w24.frozen? ⟨w10.heap.size, 2, none⟩ = false := by rw [hw24]; exact box_frozen (Below.refl _ _)
      have X_f3 : w24.frozen? ⟨w10.heap.size, 3, none⟩ = false := by rw [hw24]; exact box_frozen (Below.refl _ _)
      have raw24_R_0 := R_0
      have raw24_R_1 := R_1
      have raw24_R_2 := R_2
      have raw24_R_3 := R_3
      have raw24_R_f0 := R_f0
      have raw24_R_f1 := R_f1
      have raw24_R_f2 := R_f2
      have raw24_R_f3 := R_f3
      have raw24_X_0 := X_0
      have raw24_X_1 := X_1
      have raw24_X_2 := X_2
      have raw24_X_3 := X_3
      have raw24_X_f0 := X_f0
      have raw24_X_f1 := X_f1
      have raw24_X_f2 := X_f2
      have raw24_X_f3 := X_f3
      rw [hw24] at raw24_R_0 raw24_R_1 raw24_R_2 raw24_R_3 raw24_R_f0 raw24_R_f1 raw24_R_f2 raw24_R_f3 raw24_X_0 raw24_X_1 raw24_X_2 raw24_X_3 raw24_X_f0 raw24_X_f1 raw24_X_f2 raw24_X_f3
      go_wp2_with fail
      rw [← hw24]
      clear hw24
      clear old24_R_0 old24_R_1 old24_R_2 old24_R_3 raw24_R_0 raw24_R_1 raw24_R_2 raw24_R_3 raw24_R_f0 raw24_R_f1 raw24_R_f2 raw24_R_f3 raw24_X_0 raw24_X_1 raw24_X_2 raw24_X_3 raw24_X_f0 raw24_X_f1 raw24_X_f2 raw24_X_f3
      go_wp2_with fail
      have HC_o := HC
      clear HC
      refine (l1Once_any _ cb ba bn bc 14 (by omega) HC_o).mono ?_
      rintro e w25 ⟨t, rfl, HC, z25⟩
      clear HC_o
      have s26 := Nat.le_of_eq z25.size
      have s26' := Nat.le_of_eq z25.size.symm
      replace z25 := z25.turn
      have hb26 := hb24.trans z25
      replace R_0 := (z25.cell (p := ⟨w.heap.size, 0, none⟩) (by simp only []; omega) (by simp only []; omega)).trans R_0
      replace R_1 := (z25.cell (p := ⟨w.heap.size, 1, none⟩) (by simp only []; omega) (by simp only []; omega)).trans R_1
      replace R_2 := (z25.cell (p := ⟨w.heap.size, 2, none⟩) (by simp only []; omega) (by simp only []; omega)).trans R_2
      replace R_3 := (z25.cell (p := ⟨w.heap.size, 3, none⟩) (by simp only []; omega) (by simp only []; omega)).trans R_3
      replace R_f0 := (World.frozen?_of_block (a := ⟨w.heap.size, 0, none⟩) (z25.block _ (by simp only []; omega) (by simp only []; omega))).trans R_f0
      replace R_f1 := (World.frozen?_of_block (a := ⟨w.heap.size, 1, none⟩) (z25.block _ (by simp only []; omega) (by simp only []; omega))).trans R_f1
      replace R_f2 := (World.frozen?_of_block (a := ⟨w.heap.size, 2, none⟩) (z25.block _ (by simp only []; omega) (by simp only []; omega))).trans R_f2
      replace R_f3 := (World.frozen?_of_block (a := ⟨w.heap.size, 3, none⟩) (z25.block _ (by simp only []; omega) (by simp only []; omega))).trans R_f3
      replace X_0 := (z25.cell (p := ⟨w10.heap.size, 0, none⟩) (by simp only []; omega) (by simp only []; omega)).trans X_0
      replace X_1 := (z25.cell (p := ⟨w10.heap.size, 1, none⟩) (by simp only []; omega) (by simp only []; omega)).trans X_1
      replace X_2 := (z25.cell (p := ⟨w10.heap.size, 2, none⟩) (by simp only []; omega) (by simp only []; omega)).trans X_2
      replace X_3 := (z25.cell (p := ⟨w10.heap.size, 3, none⟩) (by simp only []; omega) (by simp only []; omega)).trans X_3
      replace X_f0 := (World.frozen?_of_block (a := ⟨w10.heap.size, 0, none⟩) (z25.block _ (by simp only []; omega) (by simp only []; omega))).trans X_f0
      replace X_f1 := (World.frozen?_of_block (a := ⟨w10.heap.size, 1, none⟩) (z25.block _ (by simp only []; omega) (by simp only []; omega))).trans X_f1
      replace X_f2 := (World.frozen?_of_block (a := ⟨w10.heap.size, 2, none⟩) (z25.block _ (by simp only []; omega) (by simp only []; omega))).trans X_f2
      replace X_f3 := (World.frozen?_of_block (a := ⟨w10.heap.size, 3, none⟩) (z25.block _ (by simp only []; omega) (by simp only []; omega))).trans X_f3
      cases t with
      | false =>
        go_wp2_with fail
        refine bodyPost_ret (v := .agg #[.string m1, .int .i64 c1, .string m2, .int .i64 0]) (by simp [results, Tryd.results95, go_sem, R_0, R_1, R_2, R_3, R_f0, R_f1, R_f2, R_f3]) rfl ⟨m1, c1, m2, 0, rfl, ⟨hsm1, hsm2, hc1, h0i⟩, ?_, ?_⟩
        · refine Cur.below' (C := w.heap.size) HC ?_ hcb
          repeat (refine Below.setCell ?_ (by simp only []; omega) _)
          exact Below.refl _ _
        · refine turn_on' hb26 ?_
          repeat (refine Below.setCell ?_ (by simp only []; omega) _)
          exact Below.refl _ _
      | true =>
        have h2 := ints_litD w25 [-1, 3] (i64_litsD (by decide)) (by simp)
        obtain ⟨w27, hw27⟩ : ∃ W, W = w25.alloc (.cells #[.int .i64 (-1), .int .i64 3] 3) := ⟨_, rfl⟩
        have z27 : Below w25.heap.size w25 w27 := by rw [hw27]; exact (Below.refl _ _).alloc (Nat.le_refl _) _
        have s27 : w27.heap.size = w25.heap.size + 1 := by rw [hw27]; simp
        have hb27 := turn_on' hb26 (z27.mono (by omega))
        have old27_R_0 := R_0
        have old27_R_1 := R_1
        have old27_R_2 := R_2
        have old27_R_3 := R_3
        have old27_X_0 := X_0
        have old27_X_1 := X_1
        have old27_X_2 := X_2
        have old27_X_3 := X_3
        replace HC := HC.below' z27 (by omega)
        replace R_0 := (z27.cell (p := ⟨w.heap.size, 0, none⟩) (by simp only []; omega)).trans R_0
        replace R_1 := (z27.cell (p := ⟨w.heap.size, 1, none⟩) (by simp only []; omega)).trans R_1
        replace R_2 := (z27.cell (p := ⟨w.heap.size, 2, none⟩) (by simp only []; omega)).trans R_2
        replace R_3 := (z27.cell (p := ⟨w.heap.size, 3, none⟩) (by simp only []; omega)).trans R_3
        replace R_f0 := (z27.frozen (p := ⟨w.heap.size, 0, none⟩) (by simp only []; omega)).trans R_f0
        replace R_f1 := (z27.frozen (p := ⟨w.heap.size, 1, none⟩) (by simp only []; omega)).trans R_f1
        replace R_f2 := (z27.frozen (p := ⟨w.heap.size, 2, none⟩) (by simp only []; omega)).trans R_f2
        replace R_f3 := (z27.frozen (p := ⟨w.heap.size, 3, none⟩) (by simp only []; omega)).trans R_f3
        replace X_0 := (z27.cell (p := ⟨w10.heap.size, 0, none⟩) (by simp only []; omega)).trans X_0
        replace X_1 := (z27.cell (p := ⟨w10.heap.size, 1, none⟩) (by simp only []; omega)).trans X_1
        replace X_2 := (z27.cell (p := ⟨w10.heap.size, 2, none⟩) (by simp only []; omega)).trans X_2
        replace X_3 := (z27.cell (p := ⟨w10.heap.size, 3, none⟩) (by simp only []; omega)).trans X_3
        replace X_f0 := (z27.frozen (p := ⟨w10.heap.size, 0, none⟩) (by simp only []; omega)).trans X_f0
        replace X_f1 := (z27.frozen (p := ⟨w10.heap.size, 1, none⟩) (by simp only []; omega)).trans X_f1
        replace X_f2 := (z27.frozen (p := ⟨w10.heap.size, 2, none⟩) (by simp only []; omega)).trans X_f2
        replace X_f3 := (z27.frozen (p := ⟨w10.heap.size, 3, none⟩) (by simp only []; omega)).trans X_f3
        have P_0 : w27.cell? ⟨w25.heap.size, 0, none⟩ = some (.int .i64 (-1)) := by rw [hw27]; exact box_cell (Below.refl _ _) rfl
        have P_1 : w27.cell? ⟨w25.heap.size, 1, none⟩ = some (.int .i64 3) := by rw [hw27]; exact box_cell (Below.refl _ _) rfl
        have raw27_R_0 := R_0
        have raw27_R_1 := R_1
        have raw27_R_2 := R_2
        have raw27_R_3 := R_3
        have raw27_R_f0 := R_f0
        have raw27_R_f1 := R_f1
        have raw27_R_f2 := R_f2
        have raw27_R_f3 := R_f3
        have raw27_X_0 := X_0
        have raw27_X_1 := X_1
        have raw27_X_2 := X_2
        have raw27_X_3 := X_3
        have raw27_X_f0 := X_f0
        have raw27_X_f1 := X_f1
        have raw27_X_f2 := X_f2
        have raw27_X_f3 := X_f3
        have raw27_P_0 := P_0
        have raw27_P_1 := P_1
        rw [hw27] at raw27_R_0 raw27_R_1 raw27_R_2 raw27_R_3 raw27_R_f0 raw27_R_f1 raw27_R_f2 raw27_R_f3 raw27_X_0 raw27_X_1 raw27_X_2 raw27_X_3 raw27_X_f0 raw27_X_f1 raw27_X_f2 raw27_X_f3 raw27_P_0 raw27_P_1
        replace h2 : Ints w27 (some ⟨w25.heap.size, 0, none⟩) 2 [-1, 3] := by rw [hw27]; exact h2
        clear P_0 P_1
        go_wp2_with fail
        rw [← hw27]
        clear hw27
        clear old27_R_0 old27_R_1 old27_R_2 old27_R_3 old27_X_0 old27_X_1 old27_X_2 old27_X_3 raw27_R_0 raw27_R_1 raw27_R_2 raw27_R_3 raw27_R_f0 raw27_R_f1 raw27_R_f2 raw27_R_f3 raw27_X_0 raw27_X_1 raw27_X_2 raw27_X_3 raw27_X_f0 raw27_X_f1 raw27_X_f2 raw27_X_f3 raw27_P_0 raw27_P_1
        have HC_o := HC
        clear HC
        refine (l1PickInt_any _ cb ba bn bc _ 2 2 _ (by omega) (by omega) h2 (by omega) HC_o).mono ?_
        rintro e w28 ⟨y, rfl, hy, HC, z28⟩
        clear HC_o
        have s29 := Nat.le_of_eq z28.size
        have s29' := Nat.le_of_eq z28.size.symm
        replace z28 := z28.turn
        have hb29 := hb27.trans z28
        replace R_0 := (z28.cell (p := ⟨w.heap.size, 0, none⟩) (by simp only []; omega) (by simp only []; omega)).trans R_0
        replace R_1 := (z28.cell (p := ⟨w.heap.size, 1, none⟩) (by simp only []; omega) (by simp only []; omega)).trans R_1
        replace R_2 := (z28.cell (p := ⟨w.heap.size, 2, none⟩) (by simp only []; omega) (by simp only []; omega)).trans R_2
        replace R_3 := (z28.cell (p := ⟨w.heap.size, 3, none⟩) (by simp only []; omega) (by simp only []; omega)).trans R_3
        replace R_f0 := (World.frozen?_of_block (a := ⟨w.heap.size, 0, none⟩) (z28.block _ (by simp only []; omega) (by simp only []; omega))).trans R_f0
        replace R_f1 := (World.frozen?_of_block (a := ⟨w.heap.size, 1, none⟩) (z28.block _ (by simp only []; omega) (by simp only []; omega))).trans R_f1
        replace R_f2 := (World.frozen?_of_block (a := ⟨w.heap.size, 2, none⟩) (z28.block _ (by simp only []; omega) (by simp only []; omega))).trans R_f2
        replace R_f3 := (World.frozen?_of_block (a := ⟨w.heap.size, 3, none⟩) (z28.block _ (by simp only []; omega) (by simp only []; omega))).trans R_f3
        replace X_0 := (z28.cell (p := ⟨w10.heap.size, 0, none⟩) (by simp only []; omega) (by simp only []; omega)).trans X_0
        replace X_1 := (z28.cell (p := ⟨w10.heap.size, 1, none⟩) (by simp only []; omega) (by simp only []; omega)).trans X_1
        replace X_2 := (z28.cell (p := ⟨w10.heap.size, 2, none⟩) (by simp only []; omega) (by simp only []; omega)).trans X_2
        replace X_3 := (z28.cell (p := ⟨w10.heap.size, 3, none⟩) (by simp only []; omega) (by simp only []; omega)).trans X_3
        replace X_f0 := (World.frozen?_of_block (a := ⟨w10.heap.size, 0, none⟩) (z28.block _ (by simp only []; omega) (by simp only []; omega))).trans X_f0
        replace X_f1 := (World.frozen?_of_block (a := ⟨w10.heap.size, 1, none⟩) (z28.block _ (by simp only []; omega) (by simp only []; omega))).trans X_f1
        replace X_f2 := (World.frozen?_of_block (a := ⟨w10.heap.size, 2, none⟩) (z28.block _ (by simp only []; omega) (by simp only []; omega))).trans X_f2
        replace X_f3 := (World.frozen?_of_block (a := ⟨w10.heap.size, 3, none⟩) (z28.block _ (by simp only []; omega) (by simp only []; omega))).trans X_f3
        have hy64 : I64 y := i64_litsD (by decide) y hy
        clear h2 hy
        go_wp2_with fail
        refine bodyPost_ret (v := .agg #[.string m1, .int .i64 y, .string m2, .int .i64 0]) (by simp [results, Tryd.results95, go_sem, R_0, R_1, R_2, R_3, R_f0, R_f1, R_f2, R_f3]) rfl ⟨m1, y, m2, 0, rfl, ⟨hsm1, hsm2, hy64, h0i⟩, ?_, ?_⟩
        · refine Cur.below' (C := w.heap.size) HC ?_ hcb
          repeat (refine Below.setCell ?_ (by simp only []; omega) _)
          exact Below.refl _ _
        · refine turn_on' hb29 ?_
          repeat (refine Below.setCell ?_ (by simp only []; omega) _)
          exact Below.refl _ _
    | false =>
      obtain ⟨w30, hw30⟩ : ∃ W, W = w10.alloc (.cells #[.string m1, .int .i64 c1, .string m2, .int .i64 c2] 51) := ⟨_, rfl⟩
      have z30 : Below w10.heap.size w10 w30 := by rw [hw30]; exact (Below.refl _ _).alloc (Nat.le_refl _) _
      have s30 : w30.heap.size = w10.heap.size + 1 := by rw [hw30]; simp
      have hb30 := turn_on' hb11 (z30.mono (by omega))
      have old30_R_0 := R_0
      have old30_R_1 := R_1
      have old30_R_2 := R_2
      have old30_R_3 := R_3
      replace HC := HC.below' z30 (by omega)
      replace R_0 := (z30.cell (p := ⟨w.heap.size, 0, none⟩) (by simp only []; omega)).trans R_0
      replace R_1 := (z30.cell (p := ⟨w.heap.size, 1, none⟩) (by simp only []; omega)).trans R_1
      replace R_2 := (z30.cell (p := ⟨w.heap.size, 2, none⟩) (by simp only []; omega)).trans R_2
      replace R_3 := (z30.cell (p := ⟨w.heap.size, 3, none⟩) (by simp only []; omega)).trans R_3
      replace R_f0 := (z30.frozen (p := ⟨w.heap.size, 0, none⟩) (by simp only []; omega)).trans R_f0
      replace R_f1 := (z30.frozen (p := ⟨w.heap.size, 1, none⟩) (by simp only []; omega)).trans R_f1
      replace R_f2 := (z30.frozen (p := ⟨w.heap.size, 2, none⟩) (by simp only []; omega)).trans R_f2
      replace R_f3 := (z30.frozen (p := ⟨w.heap.size, 3, none⟩) (by simp only []; omega)).trans R_f3
      have X_0 : w30.cell? ⟨w10.heap.size, 0, none⟩ = some (.string m1) := by rw [hw30]; exact box_cell (Below.refl _ _) rfl
      have X_1 : w30.cell? ⟨w10.heap.size, 1, none⟩ = some (.int .i64 c1) := by rw [hw30]; exact box_cell (Below.refl _ _) rfl
      have X_2 : w30.cell? ⟨w10.heap.size, 2, none⟩ = some (.string m2) := by rw [hw30]; exact box_cell (Below.refl _ _) rfl
      have X_3 : w30.cell? ⟨w10.heap.size, 3, none⟩ = some (.int .i64 c2) := by rw [hw30]; exact box_cell (Below.refl _ _) rfl
      have X_f0 : w30.frozen? ⟨w10.heap.size, 0, none⟩ = false := by rw [hw30]; exact box_frozen (Below.refl _ _)
      have X_f1 : w30.frozen? ⟨w10.heap.size, 1, none⟩ = false := by rw [hw30]; exact box_frozen (Below.refl _ _)
      have X_f2 : w30.frozen? ⟨w10.heap.size, 2, none⟩ = false := by rw [hw30]; exact box_frozen (Below.refl _ _)
      have X_f3 : w30.frozen? ⟨w10.heap.size, 3, none⟩ = false := by rw [hw30]; exact box_frozen (Below.refl _ _)
      have raw30_R_0 := R_0
      have raw30_R_1 := R_1
      have raw30_R_2 := R_2
      have raw30_R_3 := R_3
      have raw30_R_f0 := R_f0
      have raw30_R_f1 := R_f1
      have raw30_R_f2 := R_f2
      have raw30_R_f3 := R_f3
      have raw30_X_0 := X_0
      have raw30_X_1 := X_1
      have raw30_X_2 := X_2
      have raw30_X_3 := X_3
      have raw30_X_f0 := X_f0
      have raw30_X_f1 := X_f1
      have raw30_X_f2 := X_f2
      have raw30_X_f3 := X_f3
      rw [hw30] at raw30_R_0 raw30_R_1 raw30_R_2 raw30_R_3 raw30_R_f0 raw30_R_f1 raw30_R_f2 raw30_R_f3 raw30_X_0 raw30_X_1 raw30_X_2 raw30_X_3 raw30_X_f0 raw30_X_f1 raw30_X_f2 raw30_X_f3
      go_wp2_with fail
      rw [← hw30]
      clear hw30
      clear old30_R_0 old30_R_1 old30_R_2 old30_R_3 raw30_R_0 raw30_R_1 raw30_R_2 raw30_R_3 raw30_R_f0 raw30_R_f1 raw30_R_f2 raw30_R_f3 raw30_X_0 raw30_X_1 raw30_X_2 raw30_X_3 raw30_X_f0 raw30_X_f1 raw30_X_f2 raw30_X_f3
      go_wp2_with fail
      have HC_o := HC
      clear HC
      refine (l1Once_any _ cb ba bn bc 14 (by omega) HC_o).mono ?_
      rintro e w31 ⟨t, rfl, HC, z31⟩
      clear HC_o
      have s32 := Nat.le_of_eq z31.size
      have s32' := Nat.le_of_eq z31.size.symm
      replace z31 := z31.turn
      have hb32 := hb30.trans z31
      replace R_0 := (z31.cell (p := ⟨w.heap.size, 0, none⟩) (by simp only []; omega) (by simp only []; omega)).trans R_0
      replace R_1 := (z31.cell (p := ⟨w.heap.size, 1, none⟩) (by simp only []; omega) (by simp only []; omega)).trans R_1
      replace R_2 := (z31.cell (p := ⟨w.heap.size, 2, none⟩) (by simp only []; omega) (by simp only []; omega)).trans R_2
      replace R_3 := (z31.cell (p := ⟨w.heap.size, 3, none⟩) (by simp only []; omega) (by simp only []; omega)).trans R_3
      replace R_f0 := (World.frozen?_of_block (a := ⟨w.heap.size, 0, none⟩) (z31.block _ (by simp only []; omega) (by simp only []; omega))).trans R_f0
      replace R_f1 := (World.frozen?_of_block (a := ⟨w.heap.size, 1, none⟩) (z31.block _ (by simp only []; omega) (by simp only []; omega))).trans R_f1
      replace R_f2 := (World.frozen?_of_block (a := ⟨w.heap.size, 2, none⟩) (z31.block _ (by simp only []; omega) (by simp only []; omega))).trans R_f2
      replace R_f3 := (World.frozen?_of_block (a := ⟨w.heap.size, 3, none⟩) (z31.block _ (by simp only []; omega) (by simp only []; omega))).trans R_f3
      replace X_0 := (z31.cell (p := ⟨w10.heap.size, 0, none⟩) (by simp only []; omega) (by simp only []; omega)).trans X_0
      replace X_1 := (z31.cell (p := ⟨w10.heap.size, 1, none⟩) (by simp only []; omega) (by simp only []; omega)).trans X_1
      replace X_2 := (z31.cell (p := ⟨w10.heap.size, 2, none⟩) (by simp only []; omega) (by simp only []; omega)).trans X_2
      replace X_3 := (z31.cell (p := ⟨w10.heap.size, 3, none⟩) (by simp only []; omega) (by simp only []; omega)).trans X_3
      replace X_f0 := (World.frozen?_of_block (a := ⟨w10.heap.size, 0, none⟩) (z31.block _ (by simp only []; omega) (by simp only []; omega))).trans X_f0
      replace X_f1 := (World.frozen?_of_block (a := ⟨w10.heap.size, 1, none⟩) (z31.block _ (by simp only []; omega) (by simp only []; omega))).trans X_f1
      replace X_f2 := (World.frozen?_of_block (a := ⟨w10.heap.size, 2, none⟩) (z31.block _ (by simp only []; omega) (by simp only []; omega))).trans X_f2
      replace X_f3 := (World.frozen?_of_block (a := ⟨w10.heap.size, 3, none⟩) (z31.block _ (by simp only []; omega) (by simp only []; omega))).trans X_f3
      cases t with
      | false =>
        go_wp2_with fail
        refine bodyPost_ret (v := .agg #[.string m1, .int .i64 c1, .string m2, .int .i64 c2]) (by simp [results, Tryd.results95, go_sem, R_0, R_1, R_2, R_3, R_f0, R_f1, R_f2, R_f3]) rfl ⟨m1, c1, m2, c2, rfl, ⟨hsm1, hsm2, hc1, hc2⟩, ?_, ?_⟩
        · refine Cur.below' (C := w.heap.size) HC ?_ hcb
          repeat (refine Below.setCell ?_ (by simp only []; omega) _)
          exact Below.refl _ _
        · refine turn_on' hb32 ?_
          repeat (refine Below.setCell ?_ (by simp only []; omega) _)
          exact Below.refl _ _
      | true =>
        have h2 := ints_litD w31 [-1, 3] (i64_litsD (by decide)) (by simp)
        obtain ⟨w33, hw33⟩ : ∃ W, W = w31.alloc (.cells #[.int .i64 (-1), .int .i64 3] 3) := ⟨_, rfl⟩
        have z33 : Below w31.heap.size w31 w33 := by rw [hw33]; exact (Below.refl _ _).alloc (Nat.le_refl _) _
        have s33 : w33.heap.size = w31.heap.size + 1 := by rw [hw33]; simp
        have hb33 := turn_on' hb32 (z33.mono (by omega))
        have old33_R_0 := R_0
        have old33_R_1 := R_1
        have old33_R_2 := R_2
        have old33_R_3 := R_3
        have old33_X_0 := X_0
        have old33_X_1 := X_1
        have old33_X_2 := X_2
        have old33_X_3 := X_3
        replace HC := HC.below' z33 (by omega)
        replace R_0 := (z33.cell (p := ⟨w.heap.size, 0, none⟩) (by simp only []; omega)).trans R_0
        replace R_1 := (z33.cell (p := ⟨w.heap.size, 1, none⟩) (by simp only []; omega)).trans R_1
        replace R_2 := (z33.cell (p := ⟨w.heap.size, 2, none⟩) (by simp only []; omega)).trans R_2
        replace R_3 := (z33.cell (p := ⟨w.heap.size, 3, none⟩) (by simp only []; omega)).trans R_3
        replace R_f0 := (z33.frozen (p := ⟨w.heap.size, 0, none⟩) (by simp only []; omega)).trans R_f0
        replace R_f1 := (z33.frozen (p := ⟨w.heap.size, 1, none⟩) (by simp only []; omega)).trans R_f1
        replace R_f2 := (z33.frozen (p := ⟨w.heap.size, 2, none⟩) (by simp only []; omega)).trans R_f2
        replace R_f3 := (z33.frozen (p := ⟨w.heap.size, 3, none⟩) (by simp only []; omega)).trans R_f3
        replace X_0 := (z33.cell (p := ⟨w10.heap.size, 0, none⟩) (by simp only []; omega)).trans X_0
        replace X_1 := (z33.cell (p := ⟨w10.heap.size, 1, none⟩) (by simp only []; omega)).trans X_1
        replace X_2 := (z33.cell (p := ⟨w10.heap.size, 2, none⟩) (by simp only []; omega)).trans X_2
        replace X_3 := (z33.cell (p := ⟨w10.heap.size, 3, none⟩) (by simp only []; omega)).trans X_3
        replace X_f0 := (z33.frozen (p := ⟨w10.heap.size, 0, none⟩) (by simp only []; omega)).trans X_f0
        replace X_f1 := (z33.frozen (p := ⟨w10.heap.size, 1, none⟩) (by simp only []; omega)).trans X_f1
        replace X_f2 := (z33.frozen (p := ⟨w10.heap.size, 2, none⟩) (by simp only []; omega)).trans X_f2
        replace X_f3 := (z33.frozen (p := ⟨w10.heap.size, 3, none⟩) (by simp only []; omega)).trans X_f3
        have P_0 : w33.cell? ⟨w31.heap.size, 0, none⟩ = some (.int .i64 (-1)) := by rw [hw33]; exact box_cell (Below.refl _ _) rfl
        have P_1 : w33.cell? ⟨w31.heap.size, 1, none⟩ = some (.int .i64 3) := by rw [hw33]; exact box_cell (Below.refl _ _) rfl
        have raw33_R_0 := R_0
        have raw33_R_1 := R_1
        have raw33_R_2 := R_2
        have raw33_R_3 := R_3
        have raw33_R_f0 := R_f0
        have raw33_R_f1 := R_f1
        have raw33_R_f2 := R_f2
        have raw33_R_f3 := R_f3
        have raw33_X_0 := X_0
        have raw33_X_1 := X_1
        have raw33_X_2 := X_2
        have raw33_X_3 := X_3
        have raw33_X_f0 := X_f0
        have raw33_X_f1 := X_f1
        have raw33_X_f2 := X_f2
        have raw33_X_f3 := X_f3
        have raw33_P_0 := P_0
        have raw33_P_1 := P_1
        rw [hw33] at raw33_R_0 raw33_R_1 raw33_R_2 raw33_R_3 raw33_R_f0 raw33_R_f1 raw33_R_f2 raw33_R_f3 raw33_X_0 raw33_X_1 raw33_X_2 raw33_X_3 raw33_X_f0 raw33_X_f1 raw33_X_f2 raw33_X_f3 raw33_P_0 raw33_P_1
        replace h2 : Ints w33 (some ⟨w31.heap.size, 0, none⟩) 2 [-1, 3] := by rw [hw33]; exact h2
        clear P_0 P_1
        go_wp2_with fail
        rw [← hw33]
        clear hw33
        clear old33_R_0 old33_R_1 old33_R_2 old33_R_3 old33_X_0 old33_X_1 old33_X_2 old33_X_3 raw33_R_0 raw33_R_1 raw33_R_2 raw33_R_3 raw33_R_f0 raw33_R_f1 raw33_R_f2 raw33_R_f3 raw33_X_0 raw33_X_1 raw33_X_2 raw33_X_3 raw33_X_f0 raw33_X_f1 raw33_X_f2 raw33_X_f3 raw33_P_0 raw33_P_1
        have HC_o := HC
        clear HC
        refine (l1PickInt_any _ cb ba bn bc _ 2 2 _ (by omega) (by omega) h2 (by omega) HC_o).mono ?_
        rintro e w34 ⟨y, rfl, hy, HC, z34⟩
        clear HC_o
        have s35 := Nat.le_of_eq z34.size
        have s35' := Nat.le_of_eq z34.size.symm
        replace z34 := z34.turn
        have hb35 := hb33.trans z34
        replace R_0 := (z34.cell (p := ⟨w.heap.size, 0, none⟩) (by simp only []; omega) (by simp only []; omega)).trans R_0
        replace R_1 := (z34.cell (p := ⟨w.heap.size, 1, none⟩) (by simp only []; omega) (by simp only []; omega)).trans R_1
        replace R_2 := (z34.cell (p := ⟨w.heap.size, 2, none⟩) (by simp only []; omega) (by simp only []; omega)).trans R_2
        replace R_3 := (z34.cell (p := ⟨w.heap.size, 3, none⟩) (by simp only []; omega) (by simp only []; omega)).trans R_3
        replace R_f0 := (World.frozen?_of_block (a := ⟨w.heap.size, 0, none⟩) (z34.block _ (by simp only []; omega) (by simp only []; omega))).trans R_f0
        replace R_f1 := (World.frozen?_of_block (a := ⟨w.heap.size, 1, none⟩) (z34.block _ (by simp only []; omega) (by simp only []; omega))).trans R_f1
        replace R_f2 := (World.frozen?_of_block (a := ⟨w.heap.size, 2, none⟩) (z34.block _ (by simp only []; omega) (by simp only []; omega))).trans R_f2
        replace R_f3 := (World.frozen?_of_block (a := ⟨w.heap.size, 3, none⟩) (z34.block _ (by simp only []; omega) (by simp only []; omega))).trans R_f3
        replace X_0 := (z34.cell (p := ⟨w10.heap.size, 0, none⟩) (by simp only []; omega) (by simp only []; omega)).trans X_0
        replace X_1 := (z34.cell (p := ⟨w10.heap.size, 1, none⟩) (by simp only []; omega) (by simp only []; omega)).trans X_1
        replace X_2 := (z34.cell (p := ⟨w10.heap.size, 2, none⟩) (by simp only []; omega) (by simp only []; omega)).trans X_2
        replace X_3 := (z34.cell (p := ⟨w10.heap.size, 3, none⟩) (by simp only []; omega) (by simp only []; omega)).trans X_3
        replace X_f0 := (World.frozen?_of_block (a := ⟨w10.heap.size, 0, none⟩) (z34.block _ (by simp only []; omega) (by simp only []; omega))).trans X_f0
        replace X_f1 := (World.frozen?_of_block (a := ⟨w10.heap.size, 1, none⟩) (z34.block _ (by simp only []; omega) (by simp only []; omega))).trans X_f1
        replace X_f2 := (World.frozen?_of_block (a := ⟨w10.heap.size, 2, none⟩) (z34.block _ (by simp only []; omega) (by simp only []; omega))).trans X_f2
        replace X_f3 := (World.frozen?_of_block (a := ⟨w10.heap.size, 3, none⟩) (z34.block _ (by simp only []; omega) (by simp only []; omega))).trans X_f3
        have hy64 : I64 y := i64_litsD (by decide) y hy
        clear h2 hy
        go_wp2_with fail
        refine bodyPost_ret (v := .agg #[.string m1, .int .i64 y, .string m2, .int .i64 c2]) (by simp [results, Tryd.results95, go_sem, R_0, R_1, R_2, R_3, R_f0, R_f1, R_f2, R_f3]) rfl ⟨m1, y, m2, c2, rfl, ⟨hsm1, hsm2, hy64, hc2⟩, ?_, ?_⟩
        · refine Cur.below' (C := w.heap.size) HC ?_ hcb
          repeat (refine Below.setCell ?_ (by simp only []; omega) _)
          exact Below.refl _ _
        · refine turn_on' hb35 ?_
          repeat (refine Below.setCell ?_ (by simp only []; omega) _)
          exact Below.refl _ _

/-- What is drawn: a database and an inclusion. -/
def DrawnIn (w w' : World) (e : Ending) : Prop :=
  ∃ (b : Option Addr) (n c : Nat) (db : List DT) (m1 : ByteArray) (c1 : Int) (m2 : ByteArray) (c2 : Int), e = .returned (.tuple #[.agg #[.slice b n c], .agg #[.string m1, .int .i64 c1, .string m2, .int .i64 c2]]) ∧ DrawnDb w.heap.size w'.heap.size w' b n c db ∧ (m1.size ≤ 5 ∧ m2.size ≤ 5 ∧ I64 c1 ∧ I64 c2) ∧ Below w.heap.size w w'

theorem Bytes.at' {w w' : World} {n : Nat} {a : Option Addr} (h : Bytes w w.heap.size a n) (hb : Below w.heap.size w w') : Bytes w' w'.heap.size a n :=
  ⟨h.small, fun i hi => by
    obtain ⟨b, off, v, e1, e2, e3, e4⟩ := h.cell i hi
    have := hb.size
    exact ⟨b, off, v, e1, by omega, (hb.cell (p := ⟨b, off + i, none⟩) e2).trans e3, e4⟩⟩

set_option maxRecDepth 100000 in
set_option maxHeartbeats 4000000 in
theorem l12Both_any (w : World) (ba : Option Addr) (bn bc : Nat) (hn : bn ≤ 2000000) (h : Bytes w w.heap.size ba bn) :
    Calls Tryd.prog 66 #[.slice ba bn bc] w fun e w' => DrawnIn w w' e := by
  have hb0 : Below w.heap.size w w := Below.refl _ _
  go_enter Tryd.func66, Tryd.ntmps66
  obtain ⟨w1, hw1⟩ : ∃ W, W = w.alloc (.cells #[.slice none 0 0] 49) := ⟨_, rfl⟩
  have z1 : Below w.heap.size w w1 := by rw [hw1]; exact (Below.refl _ _).alloc (Nat.le_refl _) _
  have s1 : w1.heap.size = w.heap.size + 1 := by rw [hw1]; simp
  have hb1 := on hb0 z1
  have R_0 : w1.cell? ⟨w.heap.size, 0, none⟩ = some (.slice none 0 0) := by rw [hw1]; exact box_cell (Below.refl _ _) rfl
  have R_f0 : w1.frozen? ⟨w.heap.size, 0, none⟩ = false := by rw [hw1]; exact box_frozen (Below.refl _ _)
  have raw1_R_0 := R_0
  have raw1_R_f0 := R_f0
  rw [hw1] at raw1_R_0 raw1_R_f0
  obtain ⟨w2, hw2⟩ : ∃ W, W = w1.alloc (.cells #[.string (ByteArray.mk #[]), .int .i64 0, .string (ByteArray.mk #[]), .int .i64 0] 51) := ⟨_, rfl⟩
  have z2 : Below w1.heap.size w1 w2 := by rw [hw2]; exact (Below.refl _ _).alloc (Nat.le_refl _) _
  have s2 : w2.heap.size = w1.heap.size + 1 := by rw [hw2]; simp
  have hb2 := on hb1 z2
  replace R_0 := (z2.cell (p := ⟨w.heap.size, 0, none⟩) (by simp only []; omega)).trans R_0
  replace R_f0 := (z2.frozen (p := ⟨w.heap.size, 0, none⟩) (by simp only []; omega)).trans R_f0
  have e2 : w1.heap.size = w.heap.size + 1 := by omega
  have Q_0 : w2.cell? ⟨w1.heap.size, 0, none⟩ = some (.string (ByteArray.mk #[])) := by rw [hw2]; exact box_cell (Below.refl _ _) rfl
  have Q_1 : w2.cell? ⟨w1.heap.size, 1, none⟩ = some (.int .i64 0) := by rw [hw2]; exact box_cell (Below.refl _ _) rfl
  have Q_2 : w2.cell? ⟨w1.heap.size, 2, none⟩ = some (.string (ByteArray.mk #[])) := by rw [hw2]; exact box_cell (Below.refl _ _) rfl
  have Q_3 : w2.cell? ⟨w1.heap.size, 3, none⟩ = some (.int .i64 0) := by rw [hw2]; exact box_cell (Below.refl _ _) rfl
  rw [e2] at Q_0 Q_1 Q_2 Q_3
  have Q_f0 : w2.frozen? ⟨w1.heap.size, 0, none⟩ = false := by rw [hw2]; exact box_frozen (Below.refl _ _)
  have Q_f1 : w2.frozen? ⟨w1.heap.size, 1, none⟩ = false := by rw [hw2]; exact box_frozen (Below.refl _ _)
  have Q_f2 : w2.frozen? ⟨w1.heap.size, 2, none⟩ = false := by rw [hw2]; exact box_frozen (Below.refl _ _)
  have Q_f3 : w2.frozen? ⟨w1.heap.size, 3, none⟩ = false := by rw [hw2]; exact box_frozen (Below.refl _ _)
  rw [e2] at Q_f0 Q_f1 Q_f2 Q_f3
  have raw2_R_0 := R_0
  have raw2_R_f0 := R_f0
  have raw2_Q_0 := Q_0
  have raw2_Q_1 := Q_1
  have raw2_Q_2 := Q_2
  have raw2_Q_3 := Q_3
  have raw2_Q_f0 := Q_f0
  have raw2_Q_f1 := Q_f1
  have raw2_Q_f2 := Q_f2
  have raw2_Q_f3 := Q_f3
  rw [hw2, hw1] at raw2_R_0 raw2_R_f0 raw2_Q_0 raw2_Q_1 raw2_Q_2 raw2_Q_3 raw2_Q_f0 raw2_Q_f1 raw2_Q_f2 raw2_Q_f3
  have HBY := Lib.hid (h.at' hb2)
  clear h
  go_wp2_with fail
  rw [← hw1]
  rw [← hw2]
  clear hw2 hw1
  clear raw1_R_0 raw1_R_f0 raw2_R_0 raw2_R_f0 raw2_Q_0 raw2_Q_1 raw2_Q_2 raw2_Q_3 raw2_Q_f0 raw2_Q_f1 raw2_Q_f2 raw2_Q_f3
  refine (l1New_any _ ba bn bc hn HBY.out).mono ?_
  rintro e w3 ⟨cb, rfl, HC, z3, hcb1, hcb2⟩
  have s4 := z3.size
  have hb4 := on hb2 z3
  replace R_0 := (z3.cell (p := ⟨w.heap.size, 0, none⟩) (by simp only []; omega)).trans R_0
  replace R_f0 := (z3.frozen (p := ⟨w.heap.size, 0, none⟩) (by simp only []; omega)).trans R_f0
  replace Q_0 := (z3.cell (p := ⟨w.heap.size + 1, 0, none⟩) (by simp only []; omega)).trans Q_0
  replace Q_1 := (z3.cell (p := ⟨w.heap.size + 1, 1, none⟩) (by simp only []; omega)).trans Q_1
  replace Q_2 := (z3.cell (p := ⟨w.heap.size + 1, 2, none⟩) (by simp only []; omega)).trans Q_2
  replace Q_3 := (z3.cell (p := ⟨w.heap.size + 1, 3, none⟩) (by simp only []; omega)).trans Q_3
  replace Q_f0 := (z3.frozen (p := ⟨w.heap.size + 1, 0, none⟩) (by simp only []; omega)).trans Q_f0
  replace Q_f1 := (z3.frozen (p := ⟨w.heap.size + 1, 1, none⟩) (by simp only []; omega)).trans Q_f1
  replace Q_f2 := (z3.frozen (p := ⟨w.heap.size + 1, 2, none⟩) (by simp only []; omega)).trans Q_f2
  replace Q_f3 := (z3.frozen (p := ⟨w.heap.size + 1, 3, none⟩) (by simp only []; omega)).trans Q_f3
  clear HBY
  go_wp2_with fail
  obtain ⟨lo4, hlo4⟩ : ∃ q, q = w3.heap.size := ⟨_, rfl⟩
  have HC_o := HC
  clear HC
  refine (l5Any_any _ cb ba bn bc HC_o (by omega)).mono ?_
  rintro e w5 ⟨b, n, c, db, rfl, ho, HC, z5⟩
  clear HC_o
  have s6 := z5.size
  have hb6 := hb4.trans ((z5.below (by omega)).mono (by omega))
  replace R_0 := (z5.cell (p := ⟨w.heap.size, 0, none⟩) (by simp only []; omega) (by simp only []; omega)).trans R_0
  replace R_f0 := (World.frozen?_of_block (a := ⟨w.heap.size, 0, none⟩) (z5.block _ (by simp only []; omega) (by simp only []; omega))).trans R_f0
  replace Q_0 := (z5.cell (p := ⟨w.heap.size + 1, 0, none⟩) (by simp only []; omega) (by simp only []; omega)).trans Q_0
  replace Q_1 := (z5.cell (p := ⟨w.heap.size + 1, 1, none⟩) (by simp only []; omega) (by simp only []; omega)).trans Q_1
  replace Q_2 := (z5.cell (p := ⟨w.heap.size + 1, 2, none⟩) (by simp only []; omega) (by simp only []; omega)).trans Q_2
  replace Q_3 := (z5.cell (p := ⟨w.heap.size + 1, 3, none⟩) (by simp only []; omega) (by simp only []; omega)).trans Q_3
  replace Q_f0 := (World.frozen?_of_block (a := ⟨w.heap.size + 1, 0, none⟩) (z5.block _ (by simp only []; omega) (by simp only []; omega))).trans Q_f0
  replace Q_f1 := (World.frozen?_of_block (a := ⟨w.heap.size + 1, 1, none⟩) (z5.block _ (by simp only []; omega) (by simp only []; omega))).trans Q_f1
  replace Q_f2 := (World.frozen?_of_block (a := ⟨w.heap.size + 1, 2, none⟩) (z5.block _ (by simp only []; omega) (by simp only []; omega))).trans Q_f2
  replace Q_f3 := (World.frozen?_of_block (a := ⟨w.heap.size + 1, 3, none⟩) (z5.block _ (by simp only []; omega) (by simp only []; omega))).trans Q_f3
  rw [← hlo4] at ho
  obtain ⟨hi5, hhi5⟩ : ∃ q, q = w5.heap.size := ⟨_, rfl⟩
  rw [← hhi5] at ho
  have hlh : w.heap.size + 1 + 1 ≤ lo4 ∧ cb + 1 ≤ lo4 := by omega
  have hlh2 : lo4 ≤ hi5 := by omega
  obtain ⟨w7, hw7⟩ : ∃ W, W = w5.alloc (.cells #[.slice b n c] 49) := ⟨_, rfl⟩
  have z7 : Below w5.heap.size w5 w7 := by rw [hw7]; exact (Below.refl _ _).alloc (Nat.le_refl _) _
  have s7 : w7.heap.size = w5.heap.size + 1 := by rw [hw7]; simp
  have hb7 := on hb6 z7
  have old7_R_0 := R_0
  have old7_Q_0 := Q_0
  have old7_Q_1 := Q_1
  have old7_Q_2 := Q_2
  have old7_Q_3 := Q_3
  replace R_0 := (z7.cell (p := ⟨w.heap.size, 0, none⟩) (by simp only []; omega)).trans R_0
  replace R_f0 := (z7.frozen (p := ⟨w.heap.size, 0, none⟩) (by simp only []; omega)).trans R_f0
  replace Q_0 := (z7.cell (p := ⟨w.heap.size + 1, 0, none⟩) (by simp only []; omega)).trans Q_0
  replace Q_1 := (z7.cell (p := ⟨w.heap.size + 1, 1, none⟩) (by simp only []; omega)).trans Q_1
  replace Q_2 := (z7.cell (p := ⟨w.heap.size + 1, 2, none⟩) (by simp only []; omega)).trans Q_2
  replace Q_3 := (z7.cell (p := ⟨w.heap.size + 1, 3, none⟩) (by simp only []; omega)).trans Q_3
  replace Q_f0 := (z7.frozen (p := ⟨w.heap.size + 1, 0, none⟩) (by simp only []; omega)).trans Q_f0
  replace Q_f1 := (z7.frozen (p := ⟨w.heap.size + 1, 1, none⟩) (by simp only []; omega)).trans Q_f1
  replace Q_f2 := (z7.frozen (p := ⟨w.heap.size + 1, 2, none⟩) (by simp only []; omega)).trans Q_f2
  replace Q_f3 := (z7.frozen (p := ⟨w.heap.size + 1, 3, none⟩) (by simp only []; omega)).trans Q_f3
  replace HC := HC.below' z7 (by omega)
  replace ho := ho.below z7 (by omega)
  have X_0 : w7.cell? ⟨w5.heap.size, 0, none⟩ = some (.slice b n c) := by rw [hw7]; exact box_cell (Below.refl _ _) rfl
  have raw7_R_0 := R_0
  have raw7_R_f0 := R_f0
  have raw7_Q_0 := Q_0
  have raw7_Q_1 := Q_1
  have raw7_Q_2 := Q_2
  have raw7_Q_3 := Q_3
  have raw7_Q_f0 := Q_f0
  have raw7_Q_f1 := Q_f1
  have raw7_Q_f2 := Q_f2
  have raw7_Q_f3 := Q_f3
  have raw7_X_0 := X_0
  rw [hw7] at raw7_R_0 raw7_R_f0 raw7_Q_0 raw7_Q_1 raw7_Q_2 raw7_Q_3 raw7_Q_f0 raw7_Q_f1 raw7_Q_f2 raw7_Q_f3 raw7_X_0
  go_wp2_with fail
  rw [← hw7]
  clear hw7
  clear old7_R_0 old7_Q_0 old7_Q_1 old7_Q_2 old7_Q_3 raw7_R_0 raw7_R_f0 raw7_Q_0 raw7_Q_1 raw7_Q_2 raw7_Q_3 raw7_Q_f0 raw7_Q_f1 raw7_Q_f2 raw7_Q_f3 raw7_X_0
  have hdr : Below w7.heap.size w7 w7.drew := (Below.refl _ _).drew
  refine wp_region_noPanic ?_
  refine wp_region_held_drew (S := (fun W => W.cell? ⟨w5.heap.size, 0, none⟩ = some (.slice b n c))) (by kernel_rfl) ?hS8 (fun hHeld => ?_)
  case hS8 => exact X_0
  refine wpAnyH_take (i := 0) (v := ?v0_9) rfl (by kernel_rfl) (by kernel_rfl) (by kernel_rfl) (fun _ _ _ h => h) (Or.inl ⟨by rfl, ?hy0_9⟩) (by assumption) ?rest0_9
  case hy0_9 => intro w hSw; (try dsimp only at hSw); go_simp; (try with_reducible rfl)
  try simp only [Act.put, List.getElem_toArray, List.getElem_cons_succ, List.getElem_cons_zero, List.setIfInBounds_toArray, List.set_cons_zero, List.set_cons_succ]
  refine wpAnyH_take (i := 1) (v := ?v1_10) rfl (by kernel_rfl) (by kernel_rfl) (by kernel_rfl) (fun _ _ _ h => h) (Or.inl ⟨by rfl, ?hy1_10⟩) (by assumption) ?rest1_10
  case hy1_10 => intro w hSw; (try dsimp only at hSw); go_simp; (try with_reducible rfl)
  try simp only [Act.put, List.getElem_toArray, List.getElem_cons_succ, List.getElem_cons_zero, List.setIfInBounds_toArray, List.set_cons_zero, List.set_cons_succ]
  refine wpAnyH_ready (rs := [2]) (by kernel_rfl) (by simp) ?_
  refine AllReadyH.cons rfl (fun K hK => ?_) AllReadyH.nil
  go_simp; (refine (l12Inc_any _ cb ba bn bc (HC.below' hdr (by omega)) (show cb < w7.heap.size by omega)).mono ?_); rintro e wA ⟨m1, c1, m2, c2, rfl, hms, HC2, tA⟩; replace tA : Turn cb (cb + 1) w7 wA := (turn_below hdr (Nat.le_refl _)).trans tA; have sA := tA.size; have hbA := hb7.trans ((tA.below (by omega)).mono (by omega)); have hoA := ho.turn tA (by omega); have x2 := (tA.cell (p := ⟨w5.heap.size, 0, none⟩) (by simp only []; omega) (by simp only []; omega)).trans X_0; have aR_0 := (tA.cell (p := ⟨w.heap.size, 0, none⟩) (by simp only []; omega) (by simp only []; omega)).trans R_0; have aR_f0 := (tA.frozen (p := ⟨w.heap.size, 0, none⟩) (by simp only []; omega) (by simp only []; omega)).trans R_f0; have aQ_0 := (tA.cell (p := ⟨w.heap.size + 1, 0, none⟩) (by simp only []; omega) (by simp only []; omega)).trans Q_0; have aQ_f0 := (tA.frozen (p := ⟨w.heap.size + 1, 0, none⟩) (by simp only []; omega) (by simp only []; omega)).trans Q_f0; have aQ_1 := (tA.cell (p := ⟨w.heap.size + 1, 1, none⟩) (by simp only []; omega) (by simp only []; omega)).trans Q_1; have aQ_f1 := (tA.frozen (p := ⟨w.heap.size + 1, 1, none⟩) (by simp only []; omega) (by simp only []; omega)).trans Q_f1; have aQ_2 := (tA.cell (p := ⟨w.heap.size + 1, 2, none⟩) (by simp only []; omega) (by simp only []; omega)).trans Q_2; have aQ_f2 := (tA.frozen (p := ⟨w.heap.size + 1, 2, none⟩) (by simp only []; omega) (by simp only []; omega)).trans Q_f2; have aQ_3 := (tA.cell (p := ⟨w.heap.size + 1, 3, none⟩) (by simp only []; omega) (by simp only []; omega)).trans Q_3; have aQ_f3 := (tA.frozen (p := ⟨w.heap.size + 1, 3, none⟩) (by simp only []; omega) (by simp only []; omega)).trans Q_f3; clear X_0 R_0 R_f0 Q_0 Q_f0 Q_1 Q_f1 Q_2 Q_f2 Q_3 Q_f3; clear tA ho HC HC2
  refine hK.out _ _ ?_ (fun hHeld => ?_)
  · exact x2
  clear hK K
  try simp only [Act.put, List.setIfInBounds_toArray, List.set_cons_zero, List.set_cons_succ]
  refine wpAnyH_ready (rs := [3]) (by kernel_rfl) (by simp) ?_
  refine AllReadyH.cons rfl (fun K9 hK9 => ?_) AllReadyH.nil
  go_simp
  obtain ⟨wE, hwE⟩ : ∃ W, W = wA.setCell ⟨w.heap.size, 0, none⟩ (.slice b n c) := ⟨_, rfl⟩
  rw [← hwE]
  have x3 : wE.cell? ⟨w5.heap.size, 0, none⟩ = some (.slice b n c) := by rw [hwE]; exact (World.cell?_of_block (a := ⟨w5.heap.size, 0, none⟩) (Below.heap_setCell _ _ _ _ (by simp only []; omega))).trans x2
  have eR_0 : wE.cell? ⟨w.heap.size, 0, none⟩ = some (.slice b n c) := by rw [hwE]; simp [go_sem, aR_0, aQ_0, aQ_1, aQ_2, aQ_3]
  have eQ_0 : wE.cell? ⟨w.heap.size + 1, 0, none⟩ = some (.string (ByteArray.mk #[])) := by rw [hwE]; simp [go_sem, aR_0, aQ_0, aQ_1, aQ_2, aQ_3]
  have eQ_1 : wE.cell? ⟨w.heap.size + 1, 1, none⟩ = some (.int .i64 0) := by rw [hwE]; simp [go_sem, aR_0, aQ_0, aQ_1, aQ_2, aQ_3]
  have eQ_2 : wE.cell? ⟨w.heap.size + 1, 2, none⟩ = some (.string (ByteArray.mk #[])) := by rw [hwE]; simp [go_sem, aR_0, aQ_0, aQ_1, aQ_2, aQ_3]
  have eQ_3 : wE.cell? ⟨w.heap.size + 1, 3, none⟩ = some (.int .i64 0) := by rw [hwE]; simp [go_sem, aR_0, aQ_0, aQ_1, aQ_2, aQ_3]
  have eR_f0 : wE.frozen? ⟨w.heap.size, 0, none⟩ = false := by rw [hwE]; simp [go_sem, aR_f0, aQ_f0, aQ_f1, aQ_f2, aQ_f3]
  have eQ_f0 : wE.frozen? ⟨w.heap.size + 1, 0, none⟩ = false := by rw [hwE]; simp [go_sem, aR_f0, aQ_f0, aQ_f1, aQ_f2, aQ_f3]
  have eQ_f1 : wE.frozen? ⟨w.heap.size + 1, 1, none⟩ = false := by rw [hwE]; simp [go_sem, aR_f0, aQ_f0, aQ_f1, aQ_f2, aQ_f3]
  have eQ_f2 : wE.frozen? ⟨w.heap.size + 1, 2, none⟩ = false := by rw [hwE]; simp [go_sem, aR_f0, aQ_f0, aQ_f1, aQ_f2, aQ_f3]
  have eQ_f3 : wE.frozen? ⟨w.heap.size + 1, 3, none⟩ = false := by rw [hwE]; simp [go_sem, aR_f0, aQ_f0, aQ_f1, aQ_f2, aQ_f3]
  have hoE : DrawnDb lo4 hi5 wE b n c db := by rw [hwE]; exact hoA.off rfl (by simp only []; omega)
  have sE : wE.heap.size = wA.heap.size := by rw [hwE]; simp [World.setCell]
  have hbE : Below w.heap.size w wE := by rw [hwE]; exact Below.setCell hbA (by simp only []; omega) _
  clear hwE hoA x2 aR_0 aR_f0 aQ_0 aQ_f0 aQ_1 aQ_f1 aQ_2 aQ_f2 aQ_3 aQ_f3
  refine hK9.out _ _ x3 (fun hHeld => ?_)
  clear hK9 K9
  try simp only [Act.put, List.getElem_toArray, List.getElem_cons_succ, List.getElem_cons_zero, List.setIfInBounds_toArray, List.set_cons_zero, List.set_cons_succ]
  refine wpAnyH_ready (rs := [4]) (by kernel_rfl) (by simp) ?_
  refine AllReadyH.cons rfl (fun K9 hK9 => ?_) AllReadyH.nil
  go_simp
  obtain ⟨wF, hwF⟩ : ∃ W, W = (((wE.setCell ⟨w.heap.size + 1, 0, none⟩ (.string m1)).setCell ⟨w.heap.size + 1, 1, none⟩ (.int .i64 c1)).setCell ⟨w.heap.size + 1, 2, none⟩ (.string m2)).setCell ⟨w.heap.size + 1, 3, none⟩ (.int .i64 c2) := ⟨_, rfl⟩
  rw [← hwF]
  have zF : Below (w.heap.size + 1) wE wF := by
    rw [hwF]
    repeat (refine Below.setCell ?_ (by simp only []; omega) _)
    exact Below.refl _ _
  have sF : wF.heap.size = wE.heap.size := by rw [hwF]; simp [World.setCell]
  have hbF : Below w.heap.size w wF := hbE.trans (zF.mono (by omega))
  have hoF : DrawnDb lo4 hi5 wF b n c db := by
    rw [hwF]
    repeat (refine DrawnDb.off ?_ rfl (by simp only []; omega))
    exact hoE
  have x4 : wF.cell? ⟨w5.heap.size, 0, none⟩ = some (.slice b n c) := by
    rw [hwF]
    refine (World.cell?_of_block (a := ⟨w5.heap.size, 0, none⟩) ?_).trans x3
    rw [Below.heap_setCell _ _ _ _ (by simp only []; omega), Below.heap_setCell _ _ _ _ (by simp only []; omega), Below.heap_setCell _ _ _ _ (by simp only []; omega), Below.heap_setCell _ _ _ _ (by simp only []; omega)]
  have fR_0 : wF.cell? ⟨w.heap.size, 0, none⟩ = some (.slice b n c) := by rw [hwF]; simp [go_sem, eR_0, eQ_0, eQ_1, eQ_2, eQ_3]
  have fQ_0 : wF.cell? ⟨w.heap.size + 1, 0, none⟩ = some (.string m1) := by rw [hwF]; simp [go_sem, eR_0, eQ_0, eQ_1, eQ_2, eQ_3]
  have fQ_1 : wF.cell? ⟨w.heap.size + 1, 1, none⟩ = some (.int .i64 c1) := by rw [hwF]; simp [go_sem, eR_0, eQ_0, eQ_1, eQ_2, eQ_3]
  have fQ_2 : wF.cell? ⟨w.heap.size + 1, 2, none⟩ = some (.string m2) := by rw [hwF]; simp [go_sem, eR_0, eQ_0, eQ_1, eQ_2, eQ_3]
  have fQ_3 : wF.cell? ⟨w.heap.size + 1, 3, none⟩ = some (.int .i64 c2) := by rw [hwF]; simp [go_sem, eR_0, eQ_0, eQ_1, eQ_2, eQ_3]
  have fR_f0 : wF.frozen? ⟨w.heap.size, 0, none⟩ = false := by rw [hwF]; simp [go_sem, eR_f0, eQ_f0, eQ_f1, eQ_f2, eQ_f3]
  have fQ_f0 : wF.frozen? ⟨w.heap.size + 1, 0, none⟩ = false := by rw [hwF]; simp [go_sem, eR_f0, eQ_f0, eQ_f1, eQ_f2, eQ_f3]
  have fQ_f1 : wF.frozen? ⟨w.heap.size + 1, 1, none⟩ = false := by rw [hwF]; simp [go_sem, eR_f0, eQ_f0, eQ_f1, eQ_f2, eQ_f3]
  have fQ_f2 : wF.frozen? ⟨w.heap.size + 1, 2, none⟩ = false := by rw [hwF]; simp [go_sem, eR_f0, eQ_f0, eQ_f1, eQ_f2, eQ_f3]
  have fQ_f3 : wF.frozen? ⟨w.heap.size + 1, 3, none⟩ = false := by rw [hwF]; simp [go_sem, eR_f0, eQ_f0, eQ_f1, eQ_f2, eQ_f3]
  clear hwF zF hoE x3 eR_0 eR_f0 eQ_0 eQ_f0 eQ_1 eQ_f1 eQ_2 eQ_f2 eQ_3 eQ_f3
  refine hK9.out _ _ x4 (fun hHeld => ?_)
  clear hK9 K9
  try simp only [Act.put, List.getElem_toArray, List.getElem_cons_succ, List.getElem_cons_zero, List.setIfInBounds_toArray, List.set_cons_zero, List.set_cons_succ]
  refine wpAnyH_done (by kernel_rfl) ?_ _
  refine NoPanic.normal ?_
  go_wp2_with fail
  refine bodyPost_ret (v := .tuple #[.agg #[.slice b n c], .agg #[.string m1, .int .i64 c1, .string m2, .int .i64 c2]]) (by simp [results, Tryd.results66, go_sem, fR_0, fR_f0, fQ_0, fQ_f0, fQ_1, fQ_f1, fQ_2, fQ_f2, fQ_3, fQ_f3]) rfl ⟨b, n, c, db, m1, c1, m2, c2, rfl, hoF.mono (by omega) (by omega), hms, hbF⟩

end Go.Proofs.YtehcjdbljdpmbaaDoor
