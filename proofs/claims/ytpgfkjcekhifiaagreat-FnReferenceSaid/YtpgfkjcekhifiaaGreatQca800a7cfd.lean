/- Texts joined for one claim: Draw12. -/
import Derived.Test.YtpgfkjcekhifiaaGreatQ0e49c44bae
import Derived.Test.YtpgfkjcekhifiaaGreatQ8839cde446
import Derived.Test.YtpgfkjcekhifiaaGreatQ52736f1836

namespace Go.Proofs.YtpgfkjcekhifiaaGreat

open Go.RowKit

set_option linter.unusedVariables false

set_option linter.unusedSimpArgs false

set_option synthInstance.maxSize 2000

set_option synthInstance.maxHeartbeats 400000

def knownL : List (List UInt8) := [[114, 40, 88, 89, 41], [114, 40, 88, 89, 41, 32, 115, 40, 89, 90, 41], [114, 40, 88, 89, 41, 32, 115, 40, 89, 90, 41, 32, 116, 40, 90, 85, 41], [114, 40, 88, 89, 41, 32, 115, 40, 89, 90, 41, 32, 116, 40, 90, 88, 41], [114, 40, 88, 89, 41, 32, 115, 40, 88, 90, 41, 32, 116, 40, 88, 85, 41], [114, 40, 88, 89, 41, 32, 115, 40, 89, 90, 41, 32, 118, 40, 89, 41], [117, 40, 88, 89, 90, 41, 32, 115, 40, 90, 85, 41], [117, 40, 88, 89, 90, 41, 32, 114, 40, 88, 89, 41, 32, 118, 40, 90, 41], [114, 40, 88, 89, 41, 32, 115, 40, 89, 90, 41, 32, 116, 40, 90, 85, 41, 32, 118, 40, 88, 41], [114, 40, 88, 89, 41, 32, 114, 40, 89, 90, 41], [114, 40, 88, 89, 41, 32, 115, 40, 89, 88, 41], [118, 40, 88, 41, 32, 114, 40, 88, 89, 41, 32, 115, 40, 89, 90, 41, 32, 116, 40, 90, 85, 41], [114, 40, 88, 89, 41, 32, 115, 40, 89, 90, 41, 32, 116, 40, 90, 85, 41, 32, 115, 40, 85, 88, 41]]

theorem known_ok {x : ByteArray} (h : x ∈ knownL.map bs) : ∃ l q, x = bs l ∧ parQ (bs l) = some q ∧ (bs l).size ≤ 1048576 := by
  obtain ⟨l, hl, rfl⟩ := List.mem_map.1 h
  have hall : (knownL.all fun l => (parQ (bs l)).isSome && decide (l.length ≤ 1000)) = true := by kernel_rfl
  have h9 := List.all_eq_true.1 hall l hl
  rw [Bool.and_eq_true, decide_eq_true_eq] at h9
  obtain ⟨q, hq⟩ := Option.isSome_iff_exists.1 h9.1
  exact ⟨l, q, rfl, hq, by rw [bs_size]; omega⟩

theorem parQ_valid {s : ByteArray} {q : DQ} (h : parQ s = some q) : validQ q = true := by
  unfold parQ at h
  split at h
  · rename_i h9
    rw [Bool.and_eq_true, Bool.and_eq_true] at h9
    obtain rfl := Option.some.inj h
    exact h9.2.1
  · cases h

def L7St (w : World) (cb : Nat) (ba : Option Addr) (bn bc : Nat) (Q X lo1 hi1 : Nat) (q0 : Int) (qb : Option Addr) (qn qc : Nat) (y : DQ) (k : Nat) (wr : World) : Prop :=
  ∃ (x : DQ) (ab : Option Addr) (an ac : Nat), x.2.length + k ≤ 4 ∧ (0 ≤ x.1 ∧ x.1 ≤ 4) ∧
    wr.cell? ⟨w.heap.size, 0, none⟩ = some (.int .i64 0) ∧ wr.frozen? ⟨w.heap.size, 0, none⟩ = false ∧ wr.cell? ⟨w.heap.size, 1, none⟩ = some (.slice none 0 0) ∧ wr.frozen? ⟨w.heap.size, 1, none⟩ = false ∧
    wr.cell? ⟨Q, 0, none⟩ = some (.int .i64 q0) ∧ wr.cell? ⟨Q, 1, none⟩ = some (.slice qb qn qc) ∧
    wr.cell? ⟨X, 0, none⟩ = some (.int .i64 x.1) ∧ wr.frozen? ⟨X, 0, none⟩ = false ∧ wr.cell? ⟨X, 1, none⟩ = some (.slice ab an ac) ∧ wr.frozen? ⟨X, 1, none⟩ = false ∧
    Own oQ lo1 hi1 wr [.int .i64 q0, .slice qb qn qc] y ∧ Own oAs (X + 1) wr.heap.size wr [.slice ab an ac] x.2 ∧ Cur wr cb ba bn bc ∧ Turn cb (cb + 1) w wr ∧ X + 1 ≤ wr.heap.size

def QryOut (w w' : World) (cb : Nat) (ba : Option Addr) (bn bc : Nat) (e : Ending) : Prop :=
  ∃ (c0 : Int) (b : Option Addr) (n c : Nat) (x : DQ), e = .returned (.agg #[.int .i64 c0, .slice b n c]) ∧ Own oQ w.heap.size w'.heap.size w' [.int .i64 c0, .slice b n c] x ∧ validQ x = true ∧ Cur w' cb ba bn bc ∧ Turn cb (cb + 1) w w'

set_option maxRecDepth 100000 in
set_option maxHeartbeats 16000000 in
theorem l7Query_any (w : World) (cb : Nat) (ba : Option Addr) (bn bc : Nat) (HC : Cur w cb ba bn bc) (hcb : cb < w.heap.size) :
    Calls Tryz.prog 50 #[.pointer (some ⟨cb, 0, none⟩)] w fun e w' => QryOut w w' cb ba bn bc e := by
  have ht0 : Turn cb (cb + 1) w w := (Kept.refl cb (cb + 1) w).turn
  go_enter Tryz.func50, Tryz.ntmps50
  obtain ⟨w1, hw1⟩ : ∃ W, W = w.alloc (.cells #[.int .i64 0, .slice none 0 0] 29) := ⟨_, rfl⟩
  have z1 : Below w.heap.size w w1 := by rw [hw1]; exact (Below.refl _ _).alloc (Nat.le_refl _) _
  have s1 : w1.heap.size = w.heap.size + 1 := by rw [hw1]; simp
  have hb1 := turn_on' ht0 (z1.mono (by omega))
  replace HC := HC.below' z1 (by omega)
  have R_0 : w1.cell? ⟨w.heap.size, 0, none⟩ = some (.int .i64 0) := by rw [hw1]; exact box_cell (Below.refl _ _) rfl
  have R_1 : w1.cell? ⟨w.heap.size, 1, none⟩ = some (.slice none 0 0) := by rw [hw1]; exact box_cell (Below.refl _ _) rfl
  have R_f0 : w1.frozen? ⟨w.heap.size, 0, none⟩ = false := by rw [hw1]; exact box_frozen (Below.refl _ _)
  have R_f1 : w1.frozen? ⟨w.heap.size, 1, none⟩ = false := by rw [hw1]; exact box_frozen (Below.refl _ _)
  have raw1_R_0 := R_0
  have raw1_R_1 := R_1
  have raw1_R_f0 := R_f0
  have raw1_R_f1 := R_f1
  rw [hw1] at raw1_R_0 raw1_R_1 raw1_R_f0 raw1_R_f1
  obtain ⟨w2, hw2⟩ : ∃ W, W = w1.alloc (.cells #[.string (ByteArray.mk #[114, 40, 88, 89, 41]), .string (ByteArray.mk #[114, 40, 88, 89, 41, 32, 115, 40, 89, 90, 41]), .string (ByteArray.mk #[114, 40, 88, 89, 41, 32, 115, 40, 89, 90, 41, 32, 116, 40, 90, 85, 41]), .string (ByteArray.mk #[114, 40, 88, 89, 41, 32, 115, 40, 89, 90, 41, 32, 116, 40, 90, 88, 41]), .string (ByteArray.mk #[114, 40, 88, 89, 41, 32, 115, 40, 88, 90, 41, 32, 116, 40, 88, 85, 41]), .string (ByteArray.mk #[114, 40, 88, 89, 41, 32, 115, 40, 89, 90, 41, 32, 118, 40, 89, 41]), .string (ByteArray.mk #[117, 40, 88, 89, 90, 41, 32, 115, 40, 90, 85, 41]), .string (ByteArray.mk #[117, 40, 88, 89, 90, 41, 32, 114, 40, 88, 89, 41, 32, 118, 40, 90, 41]), .string (ByteArray.mk #[114, 40, 88, 89, 41, 32, 115, 40, 89, 90, 41, 32, 116, 40, 90, 85, 41, 32, 118, 40, 88, 41]), .string (ByteArray.mk #[114, 40, 88, 89, 41, 32, 114, 40, 89, 90, 41]), .string (ByteArray.mk #[114, 40, 88, 89, 41, 32, 115, 40, 89, 88, 41]), .string (ByteArray.mk #[118, 40, 88, 41, 32, 114, 40, 88, 89, 41, 32, 115, 40, 89, 90, 41, 32, 116, 40, 90, 85, 41]), .string (ByteArray.mk #[114, 40, 88, 89, 41, 32, 115, 40, 89, 90, 41, 32, 116, 40, 90, 85, 41, 32, 115, 40, 85, 88, 41])] 9) := ⟨_, rfl⟩
  have z2 : Below w1.heap.size w1 w2 := by rw [hw2]; exact (Below.refl _ _).alloc (Nat.le_refl _) _
  have s2 : w2.heap.size = w1.heap.size + 1 := by rw [hw2]; simp
  have hb2 := turn_on' hb1 (z2.mono (by omega))
  replace HC := HC.below' z2 (by omega)
  replace R_0 := bxc z2 R_0
  replace R_1 := bxc z2 R_1
  replace R_f0 := bxf z2 R_f0
  replace R_f1 := bxf z2 R_f1
  have e2 : w1.heap.size = w.heap.size + 1 := by omega
  have K_0 : w2.cell? ⟨w1.heap.size, 0, none⟩ = some (.string (ByteArray.mk #[114, 40, 88, 89, 41])) := by rw [hw2]; exact box_cell (Below.refl _ _) rfl
  have K_1 : w2.cell? ⟨w1.heap.size, 1, none⟩ = some (.string (ByteArray.mk #[114, 40, 88, 89, 41, 32, 115, 40, 89, 90, 41])) := by rw [hw2]; exact box_cell (Below.refl _ _) rfl
  have K_2 : w2.cell? ⟨w1.heap.size, 2, none⟩ = some (.string (ByteArray.mk #[114, 40, 88, 89, 41, 32, 115, 40, 89, 90, 41, 32, 116, 40, 90, 85, 41])) := by rw [hw2]; exact box_cell (Below.refl _ _) rfl
  have K_3 : w2.cell? ⟨w1.heap.size, 3, none⟩ = some (.string (ByteArray.mk #[114, 40, 88, 89, 41, 32, 115, 40, 89, 90, 41, 32, 116, 40, 90, 88, 41])) := by rw [hw2]; exact box_cell (Below.refl _ _) rfl
  have K_4 : w2.cell? ⟨w1.heap.size, 4, none⟩ = some (.string (ByteArray.mk #[114, 40, 88, 89, 41, 32, 115, 40, 88, 90, 41, 32, 116, 40, 88, 85, 41])) := by rw [hw2]; exact box_cell (Below.refl _ _) rfl
  have K_5 : w2.cell? ⟨w1.heap.size, 5, none⟩ = some (.string (ByteArray.mk #[114, 40, 88, 89, 41, 32, 115, 40, 89, 90, 41, 32, 118, 40, 89, 41])) := by rw [hw2]; exact box_cell (Below.refl _ _) rfl
  have K_6 : w2.cell? ⟨w1.heap.size, 6, none⟩ = some (.string (ByteArray.mk #[117, 40, 88, 89, 90, 41, 32, 115, 40, 90, 85, 41])) := by rw [hw2]; exact box_cell (Below.refl _ _) rfl
  have K_7 : w2.cell? ⟨w1.heap.size, 7, none⟩ = some (.string (ByteArray.mk #[117, 40, 88, 89, 90, 41, 32, 114, 40, 88, 89, 41, 32, 118, 40, 90, 41])) := by rw [hw2]; exact box_cell (Below.refl _ _) rfl
  have K_8 : w2.cell? ⟨w1.heap.size, 8, none⟩ = some (.string (ByteArray.mk #[114, 40, 88, 89, 41, 32, 115, 40, 89, 90, 41, 32, 116, 40, 90, 85, 41, 32, 118, 40, 88, 41])) := by rw [hw2]; exact box_cell (Below.refl _ _) rfl
  have K_9 : w2.cell? ⟨w1.heap.size, 9, none⟩ = some (.string (ByteArray.mk #[114, 40, 88, 89, 41, 32, 114, 40, 89, 90, 41])) := by rw [hw2]; exact box_cell (Below.refl _ _) rfl
  have K_10 : w2.cell? ⟨w1.heap.size, 10, none⟩ = some (.string (ByteArray.mk #[114, 40, 88, 89, 41, 32, 115, 40, 89, 88, 41])) := by rw [hw2]; exact box_cell (Below.refl _ _) rfl
  have K_11 : w2.cell? ⟨w1.heap.size, 11, none⟩ = some (.string (ByteArray.mk #[118, 40, 88, 41, 32, 114, 40, 88, 89, 41, 32, 115, 40, 89, 90, 41, 32, 116, 40, 90, 85, 41])) := by rw [hw2]; exact box_cell (Below.refl _ _) rfl
  have K_12 : w2.cell? ⟨w1.heap.size, 12, none⟩ = some (.string (ByteArray.mk #[114, 40, 88, 89, 41, 32, 115, 40, 89, 90, 41, 32, 116, 40, 90, 85, 41, 32, 115, 40, 85, 88, 41])) := by rw [hw2]; exact box_cell (Below.refl _ _) rfl
  rw [e2] at K_0 K_1 K_2 K_3 K_4 K_5 K_6 K_7 K_8 K_9 K_10 K_11 K_12
  have raw2_R_0 := R_0
  have raw2_R_1 := R_1
  have raw2_R_f0 := R_f0
  have raw2_R_f1 := R_f1
  have raw2_K_0 := K_0
  have raw2_K_1 := K_1
  have raw2_K_2 := K_2
  have raw2_K_3 := K_3
  have raw2_K_4 := K_4
  have raw2_K_5 := K_5
  have raw2_K_6 := K_6
  have raw2_K_7 := K_7
  have raw2_K_8 := K_8
  have raw2_K_9 := K_9
  have raw2_K_10 := K_10
  have raw2_K_11 := K_11
  have raw2_K_12 := K_12
  rw [hw2, hw1] at raw2_R_0 raw2_R_1 raw2_R_f0 raw2_R_f1 raw2_K_0 raw2_K_1 raw2_K_2 raw2_K_3 raw2_K_4 raw2_K_5 raw2_K_6 raw2_K_7 raw2_K_8 raw2_K_9 raw2_K_10 raw2_K_11 raw2_K_12
  have HN : Hid (∀ i, i < 13 → ∃ s, s ∈ knownL.map bs ∧ w2.cell? ⟨w.heap.size + 1, i, none⟩ = some (.string s)) := Lib.hid (fun i hi => by
    rcases (by omega : i = 0 ∨ i = 1 ∨ i = 2 ∨ i = 3 ∨ i = 4 ∨ i = 5 ∨ i = 6 ∨ i = 7 ∨ i = 8 ∨ i = 9 ∨ i = 10 ∨ i = 11 ∨ i = 12) with rfl | rfl | rfl | rfl | rfl | rfl | rfl | rfl | rfl | rfl | rfl | rfl | rfl
    · exact ⟨ByteArray.mk #[114, 40, 88, 89, 41], List.mem_map.2 ⟨[114, 40, 88, 89, 41], by simp [knownL], rfl⟩, K_0⟩
    · exact ⟨ByteArray.mk #[114, 40, 88, 89, 41, 32, 115, 40, 89, 90, 41], List.mem_map.2 ⟨[114, 40, 88, 89, 41, 32, 115, 40, 89, 90, 41], by simp [knownL], rfl⟩, K_1⟩
    · exact ⟨ByteArray.mk #[114, 40, 88, 89, 41, 32, 115, 40, 89, 90, 41, 32, 116, 40, 90, 85, 41], List.mem_map.2 ⟨[114, 40, 88, 89, 41, 32, 115, 40, 89, 90, 41, 32, 116, 40, 90, 85, 41], by simp [knownL], rfl⟩, K_2⟩
    · exact ⟨ByteArray.mk #[114, 40, 88, 89, 41, 32, 115, 40, 89, 90, 41, 32, 116, 40, 90, 88, 41], List.mem_map.2 ⟨[114, 40, 88, 89, 41, 32, 115, 40, 89, 90, 41, 32, 116, 40, 90, 88, 41], by simp [knownL], rfl⟩, K_3⟩
    · exact ⟨ByteArray.mk #[114, 40, 88, 89, 41, 32, 115, 40, 88, 90, 41, 32, 116, 40, 88, 85, 41], List.mem_map.2 ⟨[114, 40, 88, 89, 41, 32, 115, 40, 88, 90, 41, 32, 116, 40, 88, 85, 41], by simp [knownL], rfl⟩, K_4⟩
    · exact ⟨ByteArray.mk #[114, 40, 88, 89, 41, 32, 115, 40, 89, 90, 41, 32, 118, 40, 89, 41], List.mem_map.2 ⟨[114, 40, 88, 89, 41, 32, 115, 40, 89, 90, 41, 32, 118, 40, 89, 41], by simp [knownL], rfl⟩, K_5⟩
    · exact ⟨ByteArray.mk #[117, 40, 88, 89, 90, 41, 32, 115, 40, 90, 85, 41], List.mem_map.2 ⟨[117, 40, 88, 89, 90, 41, 32, 115, 40, 90, 85, 41], by simp [knownL], rfl⟩, K_6⟩
    · exact ⟨ByteArray.mk #[117, 40, 88, 89, 90, 41, 32, 114, 40, 88, 89, 41, 32, 118, 40, 90, 41], List.mem_map.2 ⟨[117, 40, 88, 89, 90, 41, 32, 114, 40, 88, 89, 41, 32, 118, 40, 90, 41], by simp [knownL], rfl⟩, K_7⟩
    · exact ⟨ByteArray.mk #[114, 40, 88, 89, 41, 32, 115, 40, 89, 90, 41, 32, 116, 40, 90, 85, 41, 32, 118, 40, 88, 41], List.mem_map.2 ⟨[114, 40, 88, 89, 41, 32, 115, 40, 89, 90, 41, 32, 116, 40, 90, 85, 41, 32, 118, 40, 88, 41], by simp [knownL], rfl⟩, K_8⟩
    · exact ⟨ByteArray.mk #[114, 40, 88, 89, 41, 32, 114, 40, 89, 90, 41], List.mem_map.2 ⟨[114, 40, 88, 89, 41, 32, 114, 40, 89, 90, 41], by simp [knownL], rfl⟩, K_9⟩
    · exact ⟨ByteArray.mk #[114, 40, 88, 89, 41, 32, 115, 40, 89, 88, 41], List.mem_map.2 ⟨[114, 40, 88, 89, 41, 32, 115, 40, 89, 88, 41], by simp [knownL], rfl⟩, K_10⟩
    · exact ⟨ByteArray.mk #[118, 40, 88, 41, 32, 114, 40, 88, 89, 41, 32, 115, 40, 89, 90, 41, 32, 116, 40, 90, 85, 41], List.mem_map.2 ⟨[118, 40, 88, 41, 32, 114, 40, 88, 89, 41, 32, 115, 40, 89, 90, 41, 32, 116, 40, 90, 85, 41], by simp [knownL], rfl⟩, K_11⟩
    · exact ⟨ByteArray.mk #[114, 40, 88, 89, 41, 32, 115, 40, 89, 90, 41, 32, 116, 40, 90, 85, 41, 32, 115, 40, 85, 88, 41], List.mem_map.2 ⟨[114, 40, 88, 89, 41, 32, 115, 40, 89, 90, 41, 32, 116, 40, 90, 85, 41, 32, 115, 40, 85, 88, 41], by simp [knownL], rfl⟩, K_12⟩)
  clear K_0 K_1 K_2 K_3 K_4 K_5 K_6 K_7 K_8 K_9 K_10 K_11 K_12
  go_wp2_with fail
  rw [← hw1]
  rw [← hw2]
  clear hw2 hw1
  clear raw1_R_0 raw1_R_1 raw1_R_f0 raw1_R_f1 raw2_R_0 raw2_R_1 raw2_R_f0 raw2_R_f1 raw2_K_0 raw2_K_1 raw2_K_2 raw2_K_3 raw2_K_4 raw2_K_5 raw2_K_6 raw2_K_7 raw2_K_8 raw2_K_9 raw2_K_10 raw2_K_11 raw2_K_12
  have HC_o := HC
  clear HC
  refine (l1Pick_any _ cb ba bn bc _ 13 13 _ (by omega) (by omega) HN.out (by omega) HC_o).mono ?_
  rintro e w3 ⟨x0, rfl, hx0, HC, z3⟩
  clear HC_o
  have s4 := Nat.le_of_eq z3.size
  have s4' := Nat.le_of_eq z3.size.symm
  replace z3 := z3.turn
  have hb4 := hb2.trans z3
  replace R_0 := txc z3 R_0
  replace R_1 := txc z3 R_1
  replace R_f0 := txf z3 R_f0
  replace R_f1 := txf z3 R_f1
  obtain ⟨l, y, rfl, hpq, hlsz⟩ := known_ok hx0
  have hval := parQ_valid hpq
  clear hx0 HN
  go_wp2_with fail
  obtain ⟨lo1, hlo1⟩ : ∃ q, q = w3.heap.size := ⟨_, rfl⟩
  refine (parQ_spec l _ hlsz).mono ?_
  rintro e w5 ⟨q0, qb, qn, qc, rfl, oq, z5⟩
  have s6 := z5.size
  have hb6 := turn_on' hb4 (z5.mono (by omega))
  replace HC := HC.below' z5 (by omega)
  replace R_0 := bxc z5 R_0
  replace R_1 := bxc z5 R_1
  replace R_f0 := bxf z5 R_f0
  replace R_f1 := bxf z5 R_f1
  rw [hpq] at oq ⊢
  replace oq : Own oQ _ _ _ [.int .i64 q0, .slice qb qn qc] y := oq
  clear hpq
  rw [← hlo1] at oq
  obtain ⟨hi1, hhi1⟩ : ∃ q, q = w5.heap.size := ⟨_, rfl⟩
  rw [← hhi1] at oq
  have hlh : w.heap.size + 1 ≤ lo1 ∧ cb + 1 ≤ lo1 ∧ lo1 ≤ hi1 := by omega
  obtain ⟨w7, hw7⟩ : ∃ W, W = w5.alloc (.cells #[.int .i64 q0, .slice qb qn qc] 29) := ⟨_, rfl⟩
  have z7 : Below w5.heap.size w5 w7 := by rw [hw7]; exact (Below.refl _ _).alloc (Nat.le_refl _) _
  have s7 : w7.heap.size = w5.heap.size + 1 := by rw [hw7]; simp
  have hb7 := turn_on' hb6 (z7.mono (by omega))
  have old7_R_0 := R_0
  have old7_R_1 := R_1
  replace HC := HC.below' z7 (by omega)
  replace R_0 := bxc z7 R_0
  replace R_1 := bxc z7 R_1
  replace R_f0 := bxf z7 R_f0
  replace R_f1 := bxf z7 R_f1
  replace oq := oq.below z7 (by omega)
  have Q_0 : w7.cell? ⟨w5.heap.size, 0, none⟩ = some (.int .i64 q0) := by rw [hw7]; exact box_cell (Below.refl _ _) rfl
  have Q_1 : w7.cell? ⟨w5.heap.size, 1, none⟩ = some (.slice qb qn qc) := by rw [hw7]; exact box_cell (Below.refl _ _) rfl
  have raw7_R_0 := R_0
  have raw7_R_1 := R_1
  have raw7_R_f0 := R_f0
  have raw7_R_f1 := R_f1
  have raw7_Q_0 := Q_0
  have raw7_Q_1 := Q_1
  rw [hw7] at raw7_R_0 raw7_R_1 raw7_R_f0 raw7_R_f1 raw7_Q_0 raw7_Q_1
  go_wp2_with fail
  rw [← hw7]
  clear hw7
  clear old7_R_0 old7_R_1 raw7_R_0 raw7_R_1 raw7_R_f0 raw7_R_f1 raw7_Q_0 raw7_Q_1
  have HC_o := HC
  clear HC
  refine (l1Once_any _ cb ba bn bc 4 (by omega) HC_o).mono ?_
  rintro e w8 ⟨t, rfl, HC, z8⟩
  clear HC_o
  have s9 := Nat.le_of_eq z8.size
  have s9' := Nat.le_of_eq z8.size.symm
  replace z8 := z8.turn
  have hb9 := hb7.trans z8
  replace R_0 := txc z8 R_0
  replace R_1 := txc z8 R_1
  replace R_f0 := txf z8 R_f0
  replace R_f1 := txf z8 R_f1
  replace oq := oq.turn z8 (by omega)
  replace Q_0 := txc z8 Q_0
  replace Q_1 := txc z8 Q_1
  cases t with
  | false =>
    go_wp2_with fail
    refine bodyPost_ret (v := .agg #[.int .i64 q0, .slice qb qn qc]) (by simp [results, Tryz.results50, go_sem, R_0, R_1, R_f0, R_f1]) rfl ⟨q0, qb, qn, qc, y, rfl, ?_, hval, ?_, ?_⟩
    · refine Own.mono (lo := lo1) (hi := hi1) ?_ (by omega) (by simp [World.setCell]; omega)
      repeat (refine own_off ?_ rfl (by simp only []; omega))
      exact oq
    · refine Cur.below' (C := w.heap.size) HC ?_ hcb
      repeat (refine Below.setCell ?_ (by simp only []; omega) _)
      exact Below.refl _ _
    · refine turn_on' hb9 ?_
      repeat (refine Below.setCell ?_ (by simp only []; omega) _)
      exact Below.refl _ _
  | true =>
    obtain ⟨w10, hw10⟩ : ∃ W, W = w8.alloc (.cells #[.int .i64 0, .slice none 0 0] 29) := ⟨_, rfl⟩
    have z10 : Below w8.heap.size w8 w10 := by rw [hw10]; exact (Below.refl _ _).alloc (Nat.le_refl _) _
    have s10 : w10.heap.size = w8.heap.size + 1 := by rw [hw10]; simp
    have hb10 := turn_on' hb9 (z10.mono (by omega))
    have old10_R_0 := R_0
    have old10_R_1 := R_1
    have old10_Q_0 := Q_0
    have old10_Q_1 := Q_1
    replace HC := HC.below' z10 (by omega)
    replace R_0 := bxc z10 R_0
    replace R_1 := bxc z10 R_1
    replace R_f0 := bxf z10 R_f0
    replace R_f1 := bxf z10 R_f1
    replace oq := oq.below z10 (by omega)
    replace Q_0 := bxc z10 Q_0
    replace Q_1 := bxc z10 Q_1
    have X_0 : w10.cell? ⟨w8.heap.size, 0, none⟩ = some (.int .i64 0) := by rw [hw10]; exact box_cell (Below.refl _ _) rfl
    have X_1 : w10.cell? ⟨w8.heap.size, 1, none⟩ = some (.slice none 0 0) := by rw [hw10]; exact box_cell (Below.refl _ _) rfl
    have X_f0 : w10.frozen? ⟨w8.heap.size, 0, none⟩ = false := by rw [hw10]; exact box_frozen (Below.refl _ _)
    have X_f1 : w10.frozen? ⟨w8.heap.size, 1, none⟩ = false := by rw [hw10]; exact box_frozen (Below.refl _ _)
    have raw10_R_0 := R_0
    have raw10_R_1 := R_1
    have raw10_R_f0 := R_f0
    have raw10_R_f1 := R_f1
    have raw10_Q_0 := Q_0
    have raw10_Q_1 := Q_1
    have raw10_X_0 := X_0
    have raw10_X_1 := X_1
    have raw10_X_f0 := X_f0
    have raw10_X_f1 := X_f1
    rw [hw10] at raw10_R_0 raw10_R_1 raw10_R_f0 raw10_R_f1 raw10_Q_0 raw10_Q_1 raw10_X_0 raw10_X_1 raw10_X_f0 raw10_X_f1
    go_wp2_with fail
    rw [← hw10]
    clear hw10
    clear old10_R_0 old10_R_1 old10_Q_0 old10_Q_1 raw10_R_0 raw10_R_1 raw10_R_f0 raw10_R_f1 raw10_Q_0 raw10_Q_1 raw10_X_0 raw10_X_1 raw10_X_f0 raw10_X_f1
    have HC_o := HC
    clear HC
    refine (l1Below_any _ cb ba bn bc 4 (by omega) HC_o).mono ?_
    rintro e w11 ⟨k0, rfl, hk0, hk1, hk2, HC, z11⟩
    clear HC_o
    have s12 := Nat.le_of_eq z11.size
    have s12' := Nat.le_of_eq z11.size.symm
    replace z11 := z11.turn
    have hb12 := hb10.trans z11
    replace R_0 := txc z11 R_0
    replace R_1 := txc z11 R_1
    replace R_f0 := txf z11 R_f0
    replace R_f1 := txf z11 R_f1
    replace oq := oq.turn z11 (by omega)
    replace Q_0 := txc z11 Q_0
    replace Q_1 := txc z11 Q_1
    replace X_0 := txc z11 X_0
    replace X_1 := txc z11 X_1
    replace X_f0 := txf z11 X_f0
    replace X_f1 := txf z11 X_f1
    obtain ⟨K, rfl⟩ := Int.eq_ofNat_of_zero_le hk0
    have hK : K ≤ 3 := by have := hk1 (by omega); omega
    clear hk0 hk1 hk2
    have hXX : hi1 ≤ w5.heap.size ∧ w5.heap.size < w8.heap.size ∧ cb < w5.heap.size := by omega
    have HST : Hid (L7St w cb ba bn bc (w5.heap.size) (w8.heap.size) lo1 hi1 q0 qb qn qc y (1 + K) w11) := Lib.hid ⟨(0, []), none, 0, 0, by simp; omega, ⟨by simp, by simp⟩, R_0, R_f0, R_1, R_f1, Q_0, Q_1, X_0, X_f0, X_1, X_f1, oq, (own_nil_S (B := w8.heap.size + 1)).mono (Nat.le_refl _) (by omega), HC, hb12, by omega⟩
    clear oq HC
    clear R_0 R_f0 R_1 R_f1 X_0 X_f0 X_1 X_f1 Q_0 Q_1
    go_wp2_with fail
    go_loopw [7] (fun i wr => ∃ k : Nat, k ≤ 4 ∧ i = .int .i64 (k : Int) ∧ Hid (L7St w cb ba bn bc (w5.heap.size) (w8.heap.size) lo1 hi1 q0 qb qn qc y k wr)) (fun i _ => (intOf i).toNat)
    case atStart => exact ⟨1 + K, by omega, by go_num, HST⟩
    case round =>
      clear HST
      obtain ⟨k, hk, rfl, HS⟩ := hrel
      obtain ⟨x, ab, an, ac, hxk, hx4, R_0, R_f0, R_1, R_f1, Q_0, Q_1, X_0, X_f0, X_1, X_f1, oq, oat, HC, hbo, hso⟩ := HS.out
      clear HS
      obtain ⟨wo, rfl⟩ : ∃ W, W = wr := ⟨_, rfl⟩
      have hso1 := hbo.size
      obtain ⟨hi6, hhi6⟩ : ∃ q, q = wo.heap.size := ⟨_, rfl⟩
      rw [← hhi6] at oat
      by_cases hk0 : 0 < k
      · have hkI : (k : Int) > 0 := by omega
        obtain ⟨k', rfl⟩ : ∃ k', k = k' + 1 := ⟨k - 1, by omega⟩
        go_wp2_with fail
        have HC_o := HC
        clear HC
        refine (l1Below_any _ cb ba bn bc 5 (by omega) HC_o).mono ?_
        rintro e w13 ⟨j0, rfl, hj0, hj1, hj2, HC, z13⟩
        clear HC_o
        have s14 := Nat.le_of_eq z13.size
        have s14' := Nat.le_of_eq z13.size.symm
        replace z13 := z13.turn
        have hb14 := hbo.trans z13
        replace R_0 := txc z13 R_0
        replace R_f0 := txf z13 R_f0
        replace R_1 := txc z13 R_1
        replace R_f1 := txf z13 R_f1
        replace Q_0 := txc z13 Q_0
        replace Q_1 := txc z13 Q_1
        replace X_0 := txc z13 X_0
        replace X_f0 := txf z13 X_f0
        replace X_1 := txc z13 X_1
        replace X_f1 := txf z13 X_f1
        replace oq := oq.turn z13 (by omega)
        replace oat := oat.turn z13 (by omega)
        obtain ⟨J, rfl⟩ := Int.eq_ofNat_of_zero_le hj0
        have hJ : J < 5 := by have := hj1 (by omega); omega
        have hJI : (J : Int) < 5 := by omega
        clear hj0 hj1 hj2
        rcases (by omega : J = 0 ∨ J = 1 ∨ J = 2 ∨ J = 3 ∨ J = 4) with rfl | rfl | rfl | rfl | rfl
        · skip
          obtain ⟨w15, hw15⟩ : ∃ W, W = w13.alloc (.cells #[.string (ByteArray.mk #[114]), .string (ByteArray.mk #[115]), .string (ByteArray.mk #[116]), .string (ByteArray.mk #[117]), .string (ByteArray.mk #[118])] 9) := ⟨_, rfl⟩
          have z15 : Below w13.heap.size w13 w15 := by rw [hw15]; exact (Below.refl _ _).alloc (Nat.le_refl _) _
          have s15 : w15.heap.size = w13.heap.size + 1 := by rw [hw15]; simp
          have hb15 := turn_on' hb14 (z15.mono (by omega))
          have old15_R_0 := R_0
          have old15_R_1 := R_1
          have old15_Q_0 := Q_0
          have old15_Q_1 := Q_1
          have old15_X_0 := X_0
          have old15_X_1 := X_1
          replace HC := HC.below' z15 (by omega)
          replace R_0 := bxc z15 R_0
          replace R_f0 := bxf z15 R_f0
          replace R_1 := bxc z15 R_1
          replace R_f1 := bxf z15 R_f1
          replace Q_0 := bxc z15 Q_0
          replace Q_1 := bxc z15 Q_1
          replace X_0 := bxc z15 X_0
          replace X_f0 := bxf z15 X_f0
          replace X_1 := bxc z15 X_1
          replace X_f1 := bxf z15 X_f1
          replace oq := oq.below z15 (by omega)
          replace oat := oat.below z15 (by omega)
          have N_0 : w15.cell? ⟨w13.heap.size, 0, none⟩ = some (.string (ByteArray.mk #[114])) := by rw [hw15]; exact box_cell (Below.refl _ _) rfl
          have N_1 : w15.cell? ⟨w13.heap.size, 1, none⟩ = some (.string (ByteArray.mk #[115])) := by rw [hw15]; exact box_cell (Below.refl _ _) rfl
          have N_2 : w15.cell? ⟨w13.heap.size, 2, none⟩ = some (.string (ByteArray.mk #[116])) := by rw [hw15]; exact box_cell (Below.refl _ _) rfl
          have N_3 : w15.cell? ⟨w13.heap.size, 3, none⟩ = some (.string (ByteArray.mk #[117])) := by rw [hw15]; exact box_cell (Below.refl _ _) rfl
          have N_4 : w15.cell? ⟨w13.heap.size, 4, none⟩ = some (.string (ByteArray.mk #[118])) := by rw [hw15]; exact box_cell (Below.refl _ _) rfl
          have raw15_R_0 := R_0
          have raw15_R_f0 := R_f0
          have raw15_R_1 := R_1
          have raw15_R_f1 := R_f1
          have raw15_Q_0 := Q_0
          have raw15_Q_1 := Q_1
          have raw15_X_0 := X_0
          have raw15_X_f0 := X_f0
          have raw15_X_1 := X_1
          have raw15_X_f1 := X_f1
          have raw15_N_0 := N_0
          have raw15_N_1 := N_1
          have raw15_N_2 := N_2
          have raw15_N_3 := N_3
          have raw15_N_4 := N_4
          rw [hw15] at raw15_R_0 raw15_R_f0 raw15_R_1 raw15_R_f1 raw15_Q_0 raw15_Q_1 raw15_X_0 raw15_X_f0 raw15_X_1 raw15_X_f1 raw15_N_0 raw15_N_1 raw15_N_2 raw15_N_3 raw15_N_4
          obtain ⟨w16, hw16⟩ : ∃ W, W = w15.alloc (.cells #[.string (ByteArray.mk #[114]), .slice none 0 0] 48) := ⟨_, rfl⟩
          have z16 : Below w15.heap.size w15 w16 := by rw [hw16]; exact (Below.refl _ _).alloc (Nat.le_refl _) _
          have s16 : w16.heap.size = w15.heap.size + 1 := by rw [hw16]; simp
          have hb16 := turn_on' hb15 (z16.mono (by omega))
          replace HC := HC.below' z16 (by omega)
          replace R_0 := bxc z16 R_0
          replace R_f0 := bxf z16 R_f0
          replace R_1 := bxc z16 R_1
          replace R_f1 := bxf z16 R_f1
          replace Q_0 := bxc z16 Q_0
          replace Q_1 := bxc z16 Q_1
          replace X_0 := bxc z16 X_0
          replace X_f0 := bxf z16 X_f0
          replace X_1 := bxc z16 X_1
          replace X_f1 := bxf z16 X_f1
          replace oq := oq.below z16 (by omega)
          replace oat := oat.below z16 (by omega)
          replace N_0 := bxc z16 N_0
          replace N_1 := bxc z16 N_1
          replace N_2 := bxc z16 N_2
          replace N_3 := bxc z16 N_3
          replace N_4 := bxc z16 N_4
          have e16 : w15.heap.size = w13.heap.size + 1 := by omega
          have A_0 : w16.cell? ⟨w15.heap.size, 0, none⟩ = some (.string (ByteArray.mk #[114])) := by rw [hw16]; exact box_cell (Below.refl _ _) rfl
          have A_1 : w16.cell? ⟨w15.heap.size, 1, none⟩ = some (.slice none 0 0) := by rw [hw16]; exact box_cell (Below.refl _ _) rfl
          rw [e16] at A_0 A_1
          have A_f0 : w16.frozen? ⟨w15.heap.size, 0, none⟩ = false := by rw [hw16]; exact box_frozen (Below.refl _ _)
          have A_f1 : w16.frozen? ⟨w15.heap.size, 1, none⟩ = false := by rw [hw16]; exact box_frozen (Below.refl _ _)
          rw [e16] at A_f0 A_f1
          have raw16_R_0 := R_0
          have raw16_R_f0 := R_f0
          have raw16_R_1 := R_1
          have raw16_R_f1 := R_f1
          have raw16_Q_0 := Q_0
          have raw16_Q_1 := Q_1
          have raw16_X_0 := X_0
          have raw16_X_f0 := X_f0
          have raw16_X_1 := X_1
          have raw16_X_f1 := X_f1
          have raw16_N_0 := N_0
          have raw16_N_1 := N_1
          have raw16_N_2 := N_2
          have raw16_N_3 := N_3
          have raw16_N_4 := N_4
          have raw16_A_0 := A_0
          have raw16_A_1 := A_1
          have raw16_A_f0 := A_f0
          have raw16_A_f1 := A_f1
          rw [hw16, hw15] at raw16_R_0 raw16_R_f0 raw16_R_1 raw16_R_f1 raw16_Q_0 raw16_Q_1 raw16_X_0 raw16_X_f0 raw16_X_1 raw16_X_f1 raw16_N_0 raw16_N_1 raw16_N_2 raw16_N_3 raw16_N_4 raw16_A_0 raw16_A_1 raw16_A_f0 raw16_A_f1
          obtain ⟨w17, hw17⟩ : ∃ W, W = w16.alloc (.cells #[.int .i64 2, .int .i64 2, .int .i64 2, .int .i64 3, .int .i64 1] 3) := ⟨_, rfl⟩
          have z17 : Below w16.heap.size w16 w17 := by rw [hw17]; exact (Below.refl _ _).alloc (Nat.le_refl _) _
          have s17 : w17.heap.size = w16.heap.size + 1 := by rw [hw17]; simp
          have hb17 := turn_on' hb16 (z17.mono (by omega))
          replace HC := HC.below' z17 (by omega)
          replace R_0 := bxc z17 R_0
          replace R_f0 := bxf z17 R_f0
          replace R_1 := bxc z17 R_1
          replace R_f1 := bxf z17 R_f1
          replace Q_0 := bxc z17 Q_0
          replace Q_1 := bxc z17 Q_1
          replace X_0 := bxc z17 X_0
          replace X_f0 := bxf z17 X_f0
          replace X_1 := bxc z17 X_1
          replace X_f1 := bxf z17 X_f1
          replace oq := oq.below z17 (by omega)
          replace oat := oat.below z17 (by omega)
          replace N_0 := bxc z17 N_0
          replace N_1 := bxc z17 N_1
          replace N_2 := bxc z17 N_2
          replace N_3 := bxc z17 N_3
          replace N_4 := bxc z17 N_4
          replace A_0 := bxc z17 A_0
          replace A_1 := bxc z17 A_1
          replace A_f0 := bxf z17 A_f0
          replace A_f1 := bxf z17 A_f1
          have e17 : w16.heap.size = w13.heap.size + 1 + 1 := by omega
          have M_0 : w17.cell? ⟨w16.heap.size, 0, none⟩ = some (.int .i64 2) := by rw [hw17]; exact box_cell (Below.refl _ _) rfl
          have M_1 : w17.cell? ⟨w16.heap.size, 1, none⟩ = some (.int .i64 2) := by rw [hw17]; exact box_cell (Below.refl _ _) rfl
          have M_2 : w17.cell? ⟨w16.heap.size, 2, none⟩ = some (.int .i64 2) := by rw [hw17]; exact box_cell (Below.refl _ _) rfl
          have M_3 : w17.cell? ⟨w16.heap.size, 3, none⟩ = some (.int .i64 3) := by rw [hw17]; exact box_cell (Below.refl _ _) rfl
          have M_4 : w17.cell? ⟨w16.heap.size, 4, none⟩ = some (.int .i64 1) := by rw [hw17]; exact box_cell (Below.refl _ _) rfl
          rw [e17] at M_0 M_1 M_2 M_3 M_4
          have raw17_R_0 := R_0
          have raw17_R_f0 := R_f0
          have raw17_R_1 := R_1
          have raw17_R_f1 := R_f1
          have raw17_Q_0 := Q_0
          have raw17_Q_1 := Q_1
          have raw17_X_0 := X_0
          have raw17_X_f0 := X_f0
          have raw17_X_1 := X_1
          have raw17_X_f1 := X_f1
          have raw17_N_0 := N_0
          have raw17_N_1 := N_1
          have raw17_N_2 := N_2
          have raw17_N_3 := N_3
          have raw17_N_4 := N_4
          have raw17_A_0 := A_0
          have raw17_A_1 := A_1
          have raw17_A_f0 := A_f0
          have raw17_A_f1 := A_f1
          have raw17_M_0 := M_0
          have raw17_M_1 := M_1
          have raw17_M_2 := M_2
          have raw17_M_3 := M_3
          have raw17_M_4 := M_4
          rw [hw17, hw16, hw15] at raw17_R_0 raw17_R_f0 raw17_R_1 raw17_R_f1 raw17_Q_0 raw17_Q_1 raw17_X_0 raw17_X_f0 raw17_X_1 raw17_X_f1 raw17_N_0 raw17_N_1 raw17_N_2 raw17_N_3 raw17_N_4 raw17_A_0 raw17_A_1 raw17_A_f0 raw17_A_f1 raw17_M_0 raw17_M_1 raw17_M_2 raw17_M_3 raw17_M_4
          go_wp2_with fail
          rw [← hw15]
          rw [← hw16]
          rw [← hw17]
          clear hw17 hw16 hw15
          clear old15_R_0 old15_R_1 old15_Q_0 old15_Q_1 old15_X_0 old15_X_1 raw15_R_0 raw15_R_f0 raw15_R_1 raw15_R_f1 raw15_Q_0 raw15_Q_1 raw15_X_0 raw15_X_f0 raw15_X_1 raw15_X_f1 raw15_N_0 raw15_N_1 raw15_N_2 raw15_N_3 raw15_N_4 raw16_R_0 raw16_R_f0 raw16_R_1 raw16_R_f1 raw16_Q_0 raw16_Q_1 raw16_X_0 raw16_X_f0 raw16_X_1 raw16_X_f1 raw16_N_0 raw16_N_1 raw16_N_2 raw16_N_3 raw16_N_4 raw16_A_0 raw16_A_1 raw16_A_f0 raw16_A_f1 raw17_R_0 raw17_R_f0 raw17_R_1 raw17_R_f1 raw17_Q_0 raw17_Q_1 raw17_X_0 raw17_X_f0 raw17_X_1 raw17_X_f1 raw17_N_0 raw17_N_1 raw17_N_2 raw17_N_3 raw17_N_4 raw17_A_0 raw17_A_1 raw17_A_f0 raw17_A_f1 raw17_M_0 raw17_M_1 raw17_M_2 raw17_M_3 raw17_M_4
          have HC_o := HC
          clear HC
          refine (l1Below_any _ cb ba bn bc 4 (by omega) HC_o).mono ?_
          rintro e w18 ⟨v0, rfl, hv0, hv1, hv2, HC, z18⟩
          clear HC_o
          have s19 := Nat.le_of_eq z18.size
          have s19' := Nat.le_of_eq z18.size.symm
          replace z18 := z18.turn
          have hb19 := hb17.trans z18
          replace R_0 := txc z18 R_0
          replace R_f0 := txf z18 R_f0
          replace R_1 := txc z18 R_1
          replace R_f1 := txf z18 R_f1
          replace Q_0 := txc z18 Q_0
          replace Q_1 := txc z18 Q_1
          replace X_0 := txc z18 X_0
          replace X_f0 := txf z18 X_f0
          replace X_1 := txc z18 X_1
          replace X_f1 := txf z18 X_f1
          replace oq := oq.turn z18 (by omega)
          replace oat := oat.turn z18 (by omega)
          replace N_0 := txc z18 N_0
          replace N_1 := txc z18 N_1
          replace N_2 := txc z18 N_2
          replace N_3 := txc z18 N_3
          replace N_4 := txc z18 N_4
          replace A_0 := txc z18 A_0
          replace A_1 := txc z18 A_1
          replace A_f0 := txf z18 A_f0
          replace A_f1 := txf z18 A_f1
          replace M_0 := txc z18 M_0
          replace M_1 := txc z18 M_1
          replace M_2 := txc z18 M_2
          replace M_3 := txc z18 M_3
          replace M_4 := txc z18 M_4
          obtain ⟨V0, rfl⟩ := Int.eq_ofNat_of_zero_le hv0
          have hV0 : V0 ≤ 3 := by have := hv1 (by omega); omega
          clear hv0 hv1 hv2
          have hAB : hi6 ≤ w13.heap.size + 1 ∧ w13.heap.size + 1 + 1 ≤ w18.heap.size := by omega
          have HW0 : Hid (WSt (w8.heap.size) (w13.heap.size + 1) w18 (ByteArray.mk #[114]) ab an ac [] (maxV x.1 []) w18) := Lib.hid ⟨none, 0, 0, A_0, A_1, A_f1, X_0, X_f0, X_1, X_f1, (own_nil_S (B := w13.heap.size + 1 + 1)).mono (Nat.le_refl _) (by omega), PF.refl _ _ _, by omega⟩
          clear N_0 N_1 N_2 N_3 N_4 M_0 M_1 M_2 M_3 M_4 A_0 A_1 A_f0 A_f1 X_0 X_f0 X_1 X_f1
          obtain ⟨wA, rfl⟩ : ∃ W, W = w18 := ⟨_, rfl⟩
          go_wp2_with fail
          go_loopw [11, 12] (fun v i wr => ∃ (i9 v9 : Nat) (vs : List Int), i9 ≤ 2 ∧ v9 ≤ 3 ∧ i = .int .i64 (i9 : Int) ∧ v = .int .i64 (v9 : Int) ∧ vs.length = i9 ∧ Hid (∀ u ∈ vs, 0 ≤ u ∧ u ≤ 3) ∧ Hid (WSt (w8.heap.size) (w13.heap.size + 1) wA (ByteArray.mk #[114]) ab an ac vs (maxV x.1 vs) wr)) (fun _ i _ => 2 - (intOf i).toNat)
          case atStart => exact ⟨0, V0, [], by omega, hV0, rfl, rfl, rfl, Lib.hid (fun u hu => by cases hu), HW0⟩
          case round =>
            clear HW0
            obtain ⟨i9, v9, vs, hi9, hv9, rfl, rfl, hvl, HVS, HW⟩ := hrel
            obtain ⟨wv, rfl⟩ : ∃ W, W = wr := ⟨_, rfl⟩
            obtain ⟨b, n, c, A_0, A_1, A_f1, X_0, X_f0, X_1, X_f1, ov, hpf, hsz⟩ := HW.out
            clear HW
            obtain ⟨mc, hmc⟩ : ∃ q, maxV x.1 vs = q := ⟨_, rfl⟩
            have hmr := maxV_rng (vs := vs) (c := x.1) hx4 HVS.out
            rw [hmc] at X_0 hmr
            by_cases hii : i9 < 2
            · have hiI : (i9 : Int) < 2 := by omega
              obtain ⟨na, nn, nc, wn, hrn, on_, hbn, hzn⟩ := own_num 32 ov (r := (v9 : Int)) ⟨by omega, by omega⟩ (Nat.le_refl _) hsz (by omega) rfl
              have sn := hbn.size
              have a1o := A_1
              replace A_0 := bxc hbn A_0
              replace A_1 := bxc hbn A_1
              replace A_f1 := bxf hbn A_f1
              replace X_0 := bxc hbn X_0
              replace X_f0 := bxf hbn X_f0
              replace X_1 := bxc hbn X_1
              replace X_f1 := bxf hbn X_f1
              have hpn := hpf.trans (PF.of (X := w8.heap.size) (hi := w13.heap.size + 1) hbn (by omega))
              clear hpf ov hbn
              go_wp2_with (at_builtin; refine wpList_app_run hrn rfl rfl rfl rfl rfl ?_)
              have HVS2 : Hid (∀ u ∈ vs ++ [(v9 : Int)], 0 ≤ u ∧ u ≤ 3) := Lib.hid (fun u hu => by
                rcases List.mem_append.1 hu with hu | hu
                · exact HVS.out u hu
                · simp at hu; omega)
              have HN : Hid (WSt (w8.heap.size) (w13.heap.size + 1) wA (ByteArray.mk #[114]) ab an ac (vs ++ [(v9 : Int)]) (maxV x.1 (vs ++ [(v9 : Int)])) ((wn.setCell ⟨w13.heap.size + 1, 1, none⟩ (.slice na nn nc)).setCell ⟨w8.heap.size, 0, none⟩ (.int .i64 (max mc ((v9 : Int) + 1))))) := Lib.hid (by
                rw [maxV_snoc, hmc]
                have x0 : (wn.setCell ⟨w13.heap.size + 1, 1, none⟩ (.slice na nn nc)).cell? ⟨w8.heap.size, 0, none⟩ = some (.int .i64 mc) := (World.cell?_of_block (a := ⟨w8.heap.size, 0, none⟩) (Below.heap_setCell _ _ _ _ (by simp only []; omega))).trans X_0
                have x1 : (wn.setCell ⟨w13.heap.size + 1, 1, none⟩ (.slice na nn nc)).cell? ⟨w8.heap.size, 1, none⟩ = some (.slice ab an ac) := (World.cell?_of_block (a := ⟨w8.heap.size, 1, none⟩) (Below.heap_setCell _ _ _ _ (by simp only []; omega))).trans X_1
                have xf0 : (wn.setCell ⟨w13.heap.size + 1, 1, none⟩ (.slice na nn nc)).frozen? ⟨w8.heap.size, 0, none⟩ = false := (World.frozen?_of_block (a := ⟨w8.heap.size, 0, none⟩) (Below.heap_setCell _ _ _ _ (by simp only []; omega))).trans X_f0
                have xf1 : (wn.setCell ⟨w13.heap.size + 1, 1, none⟩ (.slice na nn nc)).frozen? ⟨w8.heap.size, 1, none⟩ = false := (World.frozen?_of_block (a := ⟨w8.heap.size, 1, none⟩) (Below.heap_setCell _ _ _ _ (by simp only []; omega))).trans X_f1
                refine ⟨na, nn, nc, (World.cell?_of_block (a := ⟨w13.heap.size + 1, 0, none⟩) (Below.heap_setCell _ _ _ _ (by simp only []; omega))).trans (by simp [go_sem, A_0]), (World.cell?_of_block (a := ⟨w13.heap.size + 1, 1, none⟩) (Below.heap_setCell _ _ _ _ (by simp only []; omega))).trans (by simp [go_sem, A_1]), (World.frozen?_of_block (a := ⟨w13.heap.size + 1, 1, none⟩) (Below.heap_setCell _ _ _ _ (by simp only []; omega))).trans (by simp [go_sem, A_f1]), by simp [go_sem, x0], by simp [go_sem, xf0], by simp [go_sem, x1], by simp [go_sem, xf1], ?_, ?_, ?_⟩
                · exact (Own.setOut (Own.setOut on_ rfl (by simp only []; omega)) rfl (by simp only []; omega)).mono (Nat.le_refl _) (by simp [World.setCell])
                · exact (hpn.set (p := ⟨w13.heap.size + 1, 1, none⟩) (.inr (Nat.le_refl _)) _).set (p := ⟨w8.heap.size, 0, none⟩) (.inl rfl) _
                · simp [World.setCell]; omega)
              clear A_0 A_1 A_f1 X_0 X_f0 X_1 X_f1 hpn on_ a1o
              have hmod : ((v9 : Int) + 1) % 4 = (((v9 + 1) % 4 : Nat) : Int) := by omega
              go_roundw
              case rel => exact ⟨i9 + 1, (v9 + 1) % 4, vs ++ [(v9 : Int)], by omega, by omega, by go_num, by rw [hmod], by rw [List.length_append, hvl]; rfl, HVS2, HN⟩
              case measure => simp [intOf]; omega
            · obtain rfl : i9 = 2 := by omega
              have hiI : ¬ ((2 : Nat) : Int) < 2 := by omega
              have zI : Below (w8.heap.size) wA wv := hpf.below (by omega) (Nat.le_refl _)
              have oak := hpf.own oat (by omega) (.inl (by omega))
              clear oat
              have oAt : Own oA (w13.heap.size + 1 + 1) wv.heap.size wv [.string (ByteArray.mk #[114]), .slice b n c] ((ByteArray.mk #[114]), vs) := oA_mk (x := ((ByteArray.mk #[114]), vs)) (show (ByteArray.mk #[114]).size ≤ 9223372036854775807 by decide) ov (Nat.le_refl _) (Nat.le_refl _)
              obtain ⟨na, nn, nc, wn, hrn, on_, hzn, hzs⟩ := own_atom 27 oak oAt (Nat.le_refl _) (by omega) (by omega) hsz (by omega) rfl
              have sI := zI.size
              have hzB : Below (w8.heap.size + 1) wv wn := hzn.below (by omega)
              have hS1 := zI.trans ((hzB.mono (by omega)).trans (Below.setCell (p := ⟨w8.heap.size, 1, none⟩) (Below.refl (w8.heap.size) wn) (by simp only []; omega) (.slice na nn nc)))
              have y0 := bxc hzB X_0
              have yf0 := bxf hzB X_f0
              have y1 := bxc hzB X_1
              have yf1 := bxf hzB X_f1
              have HOS : Hid (L7St w cb ba bn bc (w5.heap.size) (w8.heap.size) lo1 hi1 q0 qb qn qc y k' (wn.setCell ⟨w8.heap.size, 1, none⟩ (.slice na nn nc))) := Lib.hid ⟨(mc, x.2 ++ [((ByteArray.mk #[114]), vs)]), na, nn, nc, by rw [List.length_append]; simp; omega, hmr,
                (hS1.cell (p := ⟨w.heap.size, 0, none⟩) (by simp only []; omega)).trans R_0, (hS1.frozen (p := ⟨w.heap.size, 0, none⟩) (by simp only []; omega)).trans R_f0, (hS1.cell (p := ⟨w.heap.size, 1, none⟩) (by simp only []; omega)).trans R_1, (hS1.frozen (p := ⟨w.heap.size, 1, none⟩) (by simp only []; omega)).trans R_f1,
                (hS1.cell (p := ⟨w5.heap.size, 0, none⟩) (by simp only []; omega)).trans Q_0, (hS1.cell (p := ⟨w5.heap.size, 1, none⟩) (by simp only []; omega)).trans Q_1,
                by simp [go_sem, y0], by simp [go_sem, yf0], by simp [go_sem, y1], by simp [go_sem, yf1],
                oq.below hS1 (by omega), (own_off on_ rfl (by simp only []; omega)).mono (Nat.le_refl _) (by simp [World.setCell]), HC.below' hS1 (by omega), turn_on' hb19 (hS1.mono (by omega)), by simp [World.setCell]; omega⟩
              clear y0 on_ oAt oak ov hpf hS1 hzB zI
              go_wp2_with (at_builtin; refine wpList_app_run hrn rfl rfl rfl rfl rfl ?_)
              go_roundw
              case rel => exact ⟨k', by omega, by go_num, HOS⟩
              case measure => simp [intOf]
        · skip
          obtain ⟨w20, hw20⟩ : ∃ W, W = w13.alloc (.cells #[.string (ByteArray.mk #[114]), .string (ByteArray.mk #[115]), .string (ByteArray.mk #[116]), .string (ByteArray.mk #[117]), .string (ByteArray.mk #[118])] 9) := ⟨_, rfl⟩
          have z20 : Below w13.heap.size w13 w20 := by rw [hw20]; exact (Below.refl _ _).alloc (Nat.le_refl _) _
          have s20 : w20.heap.size = w13.heap.size + 1 := by rw [hw20]; simp
          have hb20 := turn_on' hb14 (z20.mono (by omega))
          have old20_R_0 := R_0
          have old20_R_1 := R_1
          have old20_Q_0 := Q_0
          have old20_Q_1 := Q_1
          have old20_X_0 := X_0
          have old20_X_1 := X_1
          replace HC := HC.below' z20 (by omega)
          replace R_0 := bxc z20 R_0
          replace R_f0 := bxf z20 R_f0
          replace R_1 := bxc z20 R_1
          replace R_f1 := bxf z20 R_f1
          replace Q_0 := bxc z20 Q_0
          replace Q_1 := bxc z20 Q_1
          replace X_0 := bxc z20 X_0
          replace X_f0 := bxf z20 X_f0
          replace X_1 := bxc z20 X_1
          replace X_f1 := bxf z20 X_f1
          replace oq := oq.below z20 (by omega)
          replace oat := oat.below z20 (by omega)
          have N_0 : w20.cell? ⟨w13.heap.size, 0, none⟩ = some (.string (ByteArray.mk #[114])) := by rw [hw20]; exact box_cell (Below.refl _ _) rfl
          have N_1 : w20.cell? ⟨w13.heap.size, 1, none⟩ = some (.string (ByteArray.mk #[115])) := by rw [hw20]; exact box_cell (Below.refl _ _) rfl
          have N_2 : w20.cell? ⟨w13.heap.size, 2, none⟩ = some (.string (ByteArray.mk #[116])) := by rw [hw20]; exact box_cell (Below.refl _ _) rfl
          have N_3 : w20.cell? ⟨w13.heap.size, 3, none⟩ = some (.string (ByteArray.mk #[117])) := by rw [hw20]; exact box_cell (Below.refl _ _) rfl
          have N_4 : w20.cell? ⟨w13.heap.size, 4, none⟩ = some (.string (ByteArray.mk #[118])) := by rw [hw20]; exact box_cell (Below.refl _ _) rfl
          have raw20_R_0 := R_0
          have raw20_R_f0 := R_f0
          have raw20_R_1 := R_1
          have raw20_R_f1 := R_f1
          have raw20_Q_0 := Q_0
          have raw20_Q_1 := Q_1
          have raw20_X_0 := X_0
          have raw20_X_f0 := X_f0
          have raw20_X_1 := X_1
          have raw20_X_f1 := X_f1
          have raw20_N_0 := N_0
          have raw20_N_1 := N_1
          have raw20_N_2 := N_2
          have raw20_N_3 := N_3
          have raw20_N_4 := N_4
          rw [hw20] at raw20_R_0 raw20_R_f0 raw20_R_1 raw20_R_f1 raw20_Q_0 raw20_Q_1 raw20_X_0 raw20_X_f0 raw20_X_1 raw20_X_f1 raw20_N_0 raw20_N_1 raw20_N_2 raw20_N_3 raw20_N_4
          obtain ⟨w21, hw21⟩ : ∃ W, W = w20.alloc (.cells #[.string (ByteArray.mk #[115]), .slice none 0 0] 48) := ⟨_, rfl⟩
          have z21 : Below w20.heap.size w20 w21 := by rw [hw21]; exact (Below.refl _ _).alloc (Nat.le_refl _) _
          have s21 : w21.heap.size = w20.heap.size + 1 := by rw [hw21]; simp
          have hb21 := turn_on' hb20 (z21.mono (by omega))
          replace HC := HC.below' z21 (by omega)
          replace R_0 := bxc z21 R_0
          replace R_f0 := bxf z21 R_f0
          replace R_1 := bxc z21 R_1
          replace R_f1 := bxf z21 R_f1
          replace Q_0 := bxc z21 Q_0
          replace Q_1 := bxc z21 Q_1
          replace X_0 := bxc z21 X_0
          replace X_f0 := bxf z21 X_f0
          replace X_1 := bxc z21 X_1
          replace X_f1 := bxf z21 X_f1
          replace oq := oq.below z21 (by omega)
          replace oat := oat.below z21 (by omega)
          replace N_0 := bxc z21 N_0
          replace N_1 := bxc z21 N_1
          replace N_2 := bxc z21 N_2
          replace N_3 := bxc z21 N_3
          replace N_4 := bxc z21 N_4
          have e21 : w20.heap.size = w13.heap.size + 1 := by omega
          have A_0 : w21.cell? ⟨w20.heap.size, 0, none⟩ = some (.string (ByteArray.mk #[115])) := by rw [hw21]; exact box_cell (Below.refl _ _) rfl
          have A_1 : w21.cell? ⟨w20.heap.size, 1, none⟩ = some (.slice none 0 0) := by rw [hw21]; exact box_cell (Below.refl _ _) rfl
          rw [e21] at A_0 A_1
          have A_f0 : w21.frozen? ⟨w20.heap.size, 0, none⟩ = false := by rw [hw21]; exact box_frozen (Below.refl _ _)
          have A_f1 : w21.frozen? ⟨w20.heap.size, 1, none⟩ = false := by rw [hw21]; exact box_frozen (Below.refl _ _)
          rw [e21] at A_f0 A_f1
          have raw21_R_0 := R_0
          have raw21_R_f0 := R_f0
          have raw21_R_1 := R_1
          have raw21_R_f1 := R_f1
          have raw21_Q_0 := Q_0
          have raw21_Q_1 := Q_1
          have raw21_X_0 := X_0
          have raw21_X_f0 := X_f0
          have raw21_X_1 := X_1
          have raw21_X_f1 := X_f1
          have raw21_N_0 := N_0
          have raw21_N_1 := N_1
          have raw21_N_2 := N_2
          have raw21_N_3 := N_3
          have raw21_N_4 := N_4
          have raw21_A_0 := A_0
          have raw21_A_1 := A_1
          have raw21_A_f0 := A_f0
          have raw21_A_f1 := A_f1
          rw [hw21, hw20] at raw21_R_0 raw21_R_f0 raw21_R_1 raw21_R_f1 raw21_Q_0 raw21_Q_1 raw21_X_0 raw21_X_f0 raw21_X_1 raw21_X_f1 raw21_N_0 raw21_N_1 raw21_N_2 raw21_N_3 raw21_N_4 raw21_A_0 raw21_A_1 raw21_A_f0 raw21_A_f1
          obtain ⟨w22, hw22⟩ : ∃ W, W = w21.alloc (.cells #[.int .i64 2, .int .i64 2, .int .i64 2, .int .i64 3, .int .i64 1] 3) := ⟨_, rfl⟩
          have z22 : Below w21.heap.size w21 w22 := by rw [hw22]; exact (Below.refl _ _).alloc (Nat.le_refl _) _
          have s22 : w22.heap.size = w21.heap.size + 1 := by rw [hw22]; simp
          have hb22 := turn_on' hb21 (z22.mono (by omega))
          replace HC := HC.below' z22 (by omega)
          replace R_0 := bxc z22 R_0
          replace R_f0 := bxf z22 R_f0
          replace R_1 := bxc z22 R_1
          replace R_f1 := bxf z22 R_f1
          replace Q_0 := bxc z22 Q_0
          replace Q_1 := bxc z22 Q_1
          replace X_0 := bxc z22 X_0
          replace X_f0 := bxf z22 X_f0
          replace X_1 := bxc z22 X_1
          replace X_f1 := bxf z22 X_f1
          replace oq := oq.below z22 (by omega)
          replace oat := oat.below z22 (by omega)
          replace N_0 := bxc z22 N_0
          replace N_1 := bxc z22 N_1
          replace N_2 := bxc z22 N_2
          replace N_3 := bxc z22 N_3
          replace N_4 := bxc z22 N_4
          replace A_0 := bxc z22 A_0
          replace A_1 := bxc z22 A_1
          replace A_f0 := bxf z22 A_f0
          replace A_f1 := bxf z22 A_f1
          have e22 : w21.heap.size = w13.heap.size + 1 + 1 := by omega
          have M_0 : w22.cell? ⟨w21.heap.size, 0, none⟩ = some (.int .i64 2) := by rw [hw22]; exact box_cell (Below.refl _ _) rfl
          have M_1 : w22.cell? ⟨w21.heap.size, 1, none⟩ = some (.int .i64 2) := by rw [hw22]; exact box_cell (Below.refl _ _) rfl
          have M_2 : w22.cell? ⟨w21.heap.size, 2, none⟩ = some (.int .i64 2) := by rw [hw22]; exact box_cell (Below.refl _ _) rfl
          have M_3 : w22.cell? ⟨w21.heap.size, 3, none⟩ = some (.int .i64 3) := by rw [hw22]; exact box_cell (Below.refl _ _) rfl
          have M_4 : w22.cell? ⟨w21.heap.size, 4, none⟩ = some (.int .i64 1) := by rw [hw22]; exact box_cell (Below.refl _ _) rfl
          rw [e22] at M_0 M_1 M_2 M_3 M_4
          have raw22_R_0 := R_0
          have raw22_R_f0 := R_f0
          have raw22_R_1 := R_1
          have raw22_R_f1 := R_f1
          have raw22_Q_0 := Q_0
          have raw22_Q_1 := Q_1
          have raw22_X_0 := X_0
          have raw22_X_f0 := X_f0
          have raw22_X_1 := X_1
          have raw22_X_f1 := X_f1
          have raw22_N_0 := N_0
          have raw22_N_1 := N_1
          have raw22_N_2 := N_2
          have raw22_N_3 := N_3
          have raw22_N_4 := N_4
          have raw22_A_0 := A_0
          have raw22_A_1 := A_1
          have raw22_A_f0 := A_f0
          have raw22_A_f1 := A_f1
          have raw22_M_0 := M_0
          have raw22_M_1 := M_1
          have raw22_M_2 := M_2
          have raw22_M_3 := M_3
          have raw22_M_4 := M_4
          rw [hw22, hw21, hw20] at raw22_R_0 raw22_R_f0 raw22_R_1 raw22_R_f1 raw22_Q_0 raw22_Q_1 raw22_X_0 raw22_X_f0 raw22_X_1 raw22_X_f1 raw22_N_0 raw22_N_1 raw22_N_2 raw22_N_3 raw22_N_4 raw22_A_0 raw22_A_1 raw22_A_f0 raw22_A_f1 raw22_M_0 raw22_M_1 raw22_M_2 raw22_M_3 raw22_M_4
          go_wp2_with fail
          rw [← hw20]
          rw [← hw21]
          rw [← hw22]
          clear hw22 hw21 hw20
          clear old20_R_0 old20_R_1 old20_Q_0 old20_Q_1 old20_X_0 old20_X_1 raw20_R_0 raw20_R_f0 raw20_R_1 raw20_R_f1 raw20_Q_0 raw20_Q_1 raw20_X_0 raw20_X_f0 raw20_X_1 raw20_X_f1 raw20_N_0 raw20_N_1 raw20_N_2 raw20_N_3 raw20_N_4 raw21_R_0 raw21_R_f0 raw21_R_1 raw21_R_f1 raw21_Q_0 raw21_Q_1 raw21_X_0 raw21_X_f0 raw21_X_1 raw21_X_f1 raw21_N_0 raw21_N_1 raw21_N_2 raw21_N_3 raw21_N_4 raw21_A_0 raw21_A_1 raw21_A_f0 raw21_A_f1 raw22_R_0 raw22_R_f0 raw22_R_1 raw22_R_f1 raw22_Q_0 raw22_Q_1 raw22_X_0 raw22_X_f0 raw22_X_1 raw22_X_f1 raw22_N_0 raw22_N_1 raw22_N_2 raw22_N_3 raw22_N_4 raw22_A_0 raw22_A_1 raw22_A_f0 raw22_A_f1 raw22_M_0 raw22_M_1 raw22_M_2 raw22_M_3 raw22_M_4
          have HC_o := HC
          clear HC
          refine (l1Below_any _ cb ba bn bc 4 (by omega) HC_o).mono ?_
          rintro e w23 ⟨v0, rfl, hv0, hv1, hv2, HC, z23⟩
          clear HC_o
          have s24 := Nat.le_of_eq z23.size
          have s24' := Nat.le_of_eq z23.size.symm
          replace z23 := z23.turn
          have hb24 := hb22.trans z23
          replace R_0 := txc z23 R_0
          replace R_f0 := txf z23 R_f0
          replace R_1 := txc z23 R_1
          replace R_f1 := txf z23 R_f1
          replace Q_0 := txc z23 Q_0
          replace Q_1 := txc z23 Q_1
          replace X_0 := txc z23 X_0
          replace X_f0 := txf z23 X_f0
          replace X_1 := txc z23 X_1
          replace X_f1 := txf z23 X_f1
          replace oq := oq.turn z23 (by omega)
          replace oat := oat.turn z23 (by omega)
          replace N_0 := txc z23 N_0
          replace N_1 := txc z23 N_1
          replace N_2 := txc z23 N_2
          replace N_3 := txc z23 N_3
          replace N_4 := txc z23 N_4
          replace A_0 := txc z23 A_0
          replace A_1 := txc z23 A_1
          replace A_f0 := txf z23 A_f0
          replace A_f1 := txf z23 A_f1
          replace M_0 := txc z23 M_0
          replace M_1 := txc z23 M_1
          replace M_2 := txc z23 M_2
          replace M_3 := txc z23 M_3
          replace M_4 := txc z23 M_4
          obtain ⟨V0, rfl⟩ := Int.eq_ofNat_of_zero_le hv0
          have hV0 : V0 ≤ 3 := by have := hv1 (by omega); omega
          clear hv0 hv1 hv2
          have hAB : hi6 ≤ w13.heap.size + 1 ∧ w13.heap.size + 1 + 1 ≤ w23.heap.size := by omega
          have HW0 : Hid (WSt (w8.heap.size) (w13.heap.size + 1) w23 (ByteArray.mk #[115]) ab an ac [] (maxV x.1 []) w23) := Lib.hid ⟨none, 0, 0, A_0, A_1, A_f1, X_0, X_f0, X_1, X_f1, (own_nil_S (B := w13.heap.size + 1 + 1)).mono (Nat.le_refl _) (by omega), PF.refl _ _ _, by omega⟩
          clear N_0 N_1 N_2 N_3 N_4 M_0 M_1 M_2 M_3 M_4 A_0 A_1 A_f0 A_f1 X_0 X_f0 X_1 X_f1
          obtain ⟨wA, rfl⟩ : ∃ W, W = w23 := ⟨_, rfl⟩
          go_wp2_with fail
          go_loopw [11, 12] (fun v i wr => ∃ (i9 v9 : Nat) (vs : List Int), i9 ≤ 2 ∧ v9 ≤ 3 ∧ i = .int .i64 (i9 : Int) ∧ v = .int .i64 (v9 : Int) ∧ vs.length = i9 ∧ Hid (∀ u ∈ vs, 0 ≤ u ∧ u ≤ 3) ∧ Hid (WSt (w8.heap.size) (w13.heap.size + 1) wA (ByteArray.mk #[115]) ab an ac vs (maxV x.1 vs) wr)) (fun _ i _ => 2 - (intOf i).toNat)
          case atStart => exact ⟨0, V0, [], by omega, hV0, rfl, rfl, rfl, Lib.hid (fun u hu => by cases hu), HW0⟩
          case round =>
            clear HW0
            obtain ⟨i9, v9, vs, hi9, hv9, rfl, rfl, hvl, HVS, HW⟩ := hrel
            obtain ⟨wv, rfl⟩ : ∃ W, W = wr := ⟨_, rfl⟩
            obtain ⟨b, n, c, A_0, A_1, A_f1, X_0, X_f0, X_1, X_f1, ov, hpf, hsz⟩ := HW.out
            clear HW
            obtain ⟨mc, hmc⟩ : ∃ q, maxV x.1 vs = q := ⟨_, rfl⟩
            have hmr := maxV_rng (vs := vs) (c := x.1) hx4 HVS.out
            rw [hmc] at X_0 hmr
            by_cases hii : i9 < 2
            · have hiI : (i9 : Int) < 2 := by omega
              obtain ⟨na, nn, nc, wn, hrn, on_, hbn, hzn⟩ := own_num 32 ov (r := (v9 : Int)) ⟨by omega, by omega⟩ (Nat.le_refl _) hsz (by omega) rfl
              have sn := hbn.size
              have a1o := A_1
              replace A_0 := bxc hbn A_0
              replace A_1 := bxc hbn A_1
              replace A_f1 := bxf hbn A_f1
              replace X_0 := bxc hbn X_0
              replace X_f0 := bxf hbn X_f0
              replace X_1 := bxc hbn X_1
              replace X_f1 := bxf hbn X_f1
              have hpn := hpf.trans (PF.of (X := w8.heap.size) (hi := w13.heap.size + 1) hbn (by omega))
              clear hpf ov hbn
              go_wp2_with (at_builtin; refine wpList_app_run hrn rfl rfl rfl rfl rfl ?_)
              have HVS2 : Hid (∀ u ∈ vs ++ [(v9 : Int)], 0 ≤ u ∧ u ≤ 3) := Lib.hid (fun u hu => by
                rcases List.mem_append.1 hu with hu | hu
                · exact HVS.out u hu
                · simp at hu; omega)
              have HN : Hid (WSt (w8.heap.size) (w13.heap.size + 1) wA (ByteArray.mk #[115]) ab an ac (vs ++ [(v9 : Int)]) (maxV x.1 (vs ++ [(v9 : Int)])) ((wn.setCell ⟨w13.heap.size + 1, 1, none⟩ (.slice na nn nc)).setCell ⟨w8.heap.size, 0, none⟩ (.int .i64 (max mc ((v9 : Int) + 1))))) := Lib.hid (by
                rw [maxV_snoc, hmc]
                have x0 : (wn.setCell ⟨w13.heap.size + 1, 1, none⟩ (.slice na nn nc)).cell? ⟨w8.heap.size, 0, none⟩ = some (.int .i64 mc) := (World.cell?_of_block (a := ⟨w8.heap.size, 0, none⟩) (Below.heap_setCell _ _ _ _ (by simp only []; omega))).trans X_0
                have x1 : (wn.setCell ⟨w13.heap.size + 1, 1, none⟩ (.slice na nn nc)).cell? ⟨w8.heap.size, 1, none⟩ = some (.slice ab an ac) := (World.cell?_of_block (a := ⟨w8.heap.size, 1, none⟩) (Below.heap_setCell _ _ _ _ (by simp only []; omega))).trans X_1
                have xf0 : (wn.setCell ⟨w13.heap.size + 1, 1, none⟩ (.slice na nn nc)).frozen? ⟨w8.heap.size, 0, none⟩ = false := (World.frozen?_of_block (a := ⟨w8.heap.size, 0, none⟩) (Below.heap_setCell _ _ _ _ (by simp only []; omega))).trans X_f0
                have xf1 : (wn.setCell ⟨w13.heap.size + 1, 1, none⟩ (.slice na nn nc)).frozen? ⟨w8.heap.size, 1, none⟩ = false := (World.frozen?_of_block (a := ⟨w8.heap.size, 1, none⟩) (Below.heap_setCell _ _ _ _ (by simp only []; omega))).trans X_f1
                refine ⟨na, nn, nc, (World.cell?_of_block (a := ⟨w13.heap.size + 1, 0, none⟩) (Below.heap_setCell _ _ _ _ (by simp only []; omega))).trans (by simp [go_sem, A_0]), (World.cell?_of_block (a := ⟨w13.heap.size + 1, 1, none⟩) (Below.heap_setCell _ _ _ _ (by simp only []; omega))).trans (by simp [go_sem, A_1]), (World.frozen?_of_block (a := ⟨w13.heap.size + 1, 1, none⟩) (Below.heap_setCell _ _ _ _ (by simp only []; omega))).trans (by simp [go_sem, A_f1]), by simp [go_sem, x0], by simp [go_sem, xf0], by simp [go_sem, x1], by simp [go_sem, xf1], ?_, ?_, ?_⟩
                · exact (Own.setOut (Own.setOut on_ rfl (by simp only []; omega)) rfl (by simp only []; omega)).mono (Nat.le_refl _) (by simp [World.setCell])
                · exact (hpn.set (p := ⟨w13.heap.size + 1, 1, none⟩) (.inr (Nat.le_refl _)) _).set (p := ⟨w8.heap.size, 0, none⟩) (.inl rfl) _
                · simp [World.setCell]; omega)
              clear A_0 A_1 A_f1 X_0 X_f0 X_1 X_f1 hpn on_ a1o
              have hmod : ((v9 : Int) + 1) % 4 = (((v9 + 1) % 4 : Nat) : Int) := by omega
              go_roundw
              case rel => exact ⟨i9 + 1, (v9 + 1) % 4, vs ++ [(v9 : Int)], by omega, by omega, by go_num, by rw [hmod], by rw [List.length_append, hvl]; rfl, HVS2, HN⟩
              case measure => simp [intOf]; omega
            · obtain rfl : i9 = 2 := by omega
              have hiI : ¬ ((2 : Nat) : Int) < 2 := by omega
              have zI : Below (w8.heap.size) wA wv := hpf.below (by omega) (Nat.le_refl _)
              have oak := hpf.own oat (by omega) (.inl (by omega))
              clear oat
              have oAt : Own oA (w13.heap.size + 1 + 1) wv.heap.size wv [.string (ByteArray.mk #[115]), .slice b n c] ((ByteArray.mk #[115]), vs) := oA_mk (x := ((ByteArray.mk #[115]), vs)) (show (ByteArray.mk #[115]).size ≤ 9223372036854775807 by decide) ov (Nat.le_refl _) (Nat.le_refl _)
              obtain ⟨na, nn, nc, wn, hrn, on_, hzn, hzs⟩ := own_atom 27 oak oAt (Nat.le_refl _) (by omega) (by omega) hsz (by omega) rfl
              have sI := zI.size
              have hzB : Below (w8.heap.size + 1) wv wn := hzn.below (by omega)
              have hS1 := zI.trans ((hzB.mono (by omega)).trans (Below.setCell (p := ⟨w8.heap.size, 1, none⟩) (Below.refl (w8.heap.size) wn) (by simp only []; omega) (.slice na nn nc)))
              have y0 := bxc hzB X_0
              have yf0 := bxf hzB X_f0
              have y1 := bxc hzB X_1
              have yf1 := bxf hzB X_f1
              have HOS : Hid (L7St w cb ba bn bc (w5.heap.size) (w8.heap.size) lo1 hi1 q0 qb qn qc y k' (wn.setCell ⟨w8.heap.size, 1, none⟩ (.slice na nn nc))) := Lib.hid ⟨(mc, x.2 ++ [((ByteArray.mk #[115]), vs)]), na, nn, nc, by rw [List.length_append]; simp; omega, hmr,
                (hS1.cell (p := ⟨w.heap.size, 0, none⟩) (by simp only []; omega)).trans R_0, (hS1.frozen (p := ⟨w.heap.size, 0, none⟩) (by simp only []; omega)).trans R_f0, (hS1.cell (p := ⟨w.heap.size, 1, none⟩) (by simp only []; omega)).trans R_1, (hS1.frozen (p := ⟨w.heap.size, 1, none⟩) (by simp only []; omega)).trans R_f1,
                (hS1.cell (p := ⟨w5.heap.size, 0, none⟩) (by simp only []; omega)).trans Q_0, (hS1.cell (p := ⟨w5.heap.size, 1, none⟩) (by simp only []; omega)).trans Q_1,
                by simp [go_sem, y0], by simp [go_sem, yf0], by simp [go_sem, y1], by simp [go_sem, yf1],
                oq.below hS1 (by omega), (own_off on_ rfl (by simp only []; omega)).mono (Nat.le_refl _) (by simp [World.setCell]), HC.below' hS1 (by omega), turn_on' hb24 (hS1.mono (by omega)), by simp [World.setCell]; omega⟩
              clear y0 on_ oAt oak ov hpf hS1 hzB zI
              go_wp2_with (at_builtin; refine wpList_app_run hrn rfl rfl rfl rfl rfl ?_)
              go_roundw
              case rel => exact ⟨k', by omega, by go_num, HOS⟩
              case measure => simp [intOf]
        · skip
          obtain ⟨w25, hw25⟩ : ∃ W, W = w13.alloc (.cells #[.string (ByteArray.mk #[114]), .string (ByteArray.mk #[115]), .string (ByteArray.mk #[116]), .string (ByteArray.mk #[117]), .string (ByteArray.mk #[118])] 9) := ⟨_, rfl⟩
          have z25 : Below w13.heap.size w13 w25 := by rw [hw25]; exact (Below.refl _ _).alloc (Nat.le_refl _) _
          have s25 : w25.heap.size = w13.heap.size + 1 := by rw [hw25]; simp
          have hb25 := turn_on' hb14 (z25.mono (by omega))
          have old25_R_0 := R_0
          have old25_R_1 := R_1
          have old25_Q_0 := Q_0
          have old25_Q_1 := Q_1
          have old25_X_0 := X_0
          have old25_X_1 := X_1
          replace HC := HC.below' z25 (by omega)
          replace R_0 := bxc z25 R_0
          replace R_f0 := bxf z25 R_f0
          replace R_1 := bxc z25 R_1
          replace R_f1 := bxf z25 R_f1
          replace Q_0 := bxc z25 Q_0
          replace Q_1 := bxc z25 Q_1
          replace X_0 := bxc z25 X_0
          replace X_f0 := bxf z25 X_f0
          replace X_1 := bxc z25 X_1
          replace X_f1 := bxf z25 X_f1
          replace oq := oq.below z25 (by omega)
          replace oat := oat.below z25 (by omega)
          have N_0 : w25.cell? ⟨w13.heap.size, 0, none⟩ = some (.string (ByteArray.mk #[114])) := by rw [hw25]; exact box_cell (Below.refl _ _) rfl
          have N_1 : w25.cell? ⟨w13.heap.size, 1, none⟩ = some (.string (ByteArray.mk #[115])) := by rw [hw25]; exact box_cell (Below.refl _ _) rfl
          have N_2 : w25.cell? ⟨w13.heap.size, 2, none⟩ = some (.string (ByteArray.mk #[116])) := by rw [hw25]; exact box_cell (Below.refl _ _) rfl
          have N_3 : w25.cell? ⟨w13.heap.size, 3, none⟩ = some (.string (ByteArray.mk #[117])) := by rw [hw25]; exact box_cell (Below.refl _ _) rfl
          have N_4 : w25.cell? ⟨w13.heap.size, 4, none⟩ = some (.string (ByteArray.mk #[118])) := by rw [hw25]; exact box_cell (Below.refl _ _) rfl
          have raw25_R_0 := R_0
          have raw25_R_f0 := R_f0
          have raw25_R_1 := R_1
          have raw25_R_f1 := R_f1
          have raw25_Q_0 := Q_0
          have raw25_Q_1 := Q_1
          have raw25_X_0 := X_0
          have raw25_X_f0 := X_f0
          have raw25_X_1 := X_1
          have raw25_X_f1 := X_f1
          have raw25_N_0 := N_0
          have raw25_N_1 := N_1
          have raw25_N_2 := N_2
          have raw25_N_3 := N_3
          have raw25_N_4 := N_4
          rw [hw25] at raw25_R_0 raw25_R_f0 raw25_R_1 raw25_R_f1 raw25_Q_0 raw25_Q_1 raw25_X_0 raw25_X_f0 raw25_X_1 raw25_X_f1 raw25_N_0 raw25_N_1 raw25_N_2 raw25_N_3 raw25_N_4
          obtain ⟨w26, hw26⟩ : ∃ W, W = w25.alloc (.cells #[.string (ByteArray.mk #[116]), .slice none 0 0] 48) := ⟨_, rfl⟩
          have z26 : Below w25.heap.size w25 w26 := by rw [hw26]; exact (Below.refl _ _).alloc (Nat.le_refl _) _
          have s26 : w26.heap.size = w25.heap.size + 1 := by rw [hw26]; simp
          have hb26 := turn_on' hb25 (z26.mono (by omega))
          replace HC := HC.below' z26 (by omega)
          replace R_0 := bxc z26 R_0
          replace R_f0 := bxf z26 R_f0
          replace R_1 := bxc z26 R_1
          replace R_f1 := bxf z26 R_f1
          replace Q_0 := bxc z26 Q_0
          replace Q_1 := bxc z26 Q_1
          replace X_0 := bxc z26 X_0
          replace X_f0 := bxf z26 X_f0
          replace X_1 := bxc z26 X_1
          replace X_f1 := bxf z26 X_f1
          replace oq := oq.below z26 (by omega)
          replace oat := oat.below z26 (by omega)
          replace N_0 := bxc z26 N_0
          replace N_1 := bxc z26 N_1
          replace N_2 := bxc z26 N_2
          replace N_3 := bxc z26 N_3
          replace N_4 := bxc z26 N_4
          have e26 : w25.heap.size = w13.heap.size + 1 := by omega
          have A_0 : w26.cell? ⟨w25.heap.size, 0, none⟩ = some (.string (ByteArray.mk #[116])) := by rw [hw26]; exact box_cell (Below.refl _ _) rfl
          have A_1 : w26.cell? ⟨w25.heap.size, 1, none⟩ = some (.slice none 0 0) := by rw [hw26]; exact box_cell (Below.refl _ _) rfl
          rw [e26] at A_0 A_1
          have A_f0 : w26.frozen? ⟨w25.heap.size, 0, none⟩ = false := by rw [hw26]; exact box_frozen (Below.refl _ _)
          have A_f1 : w26.frozen? ⟨w25.heap.size, 1, none⟩ = false := by rw [hw26]; exact box_frozen (Below.refl _ _)
          rw [e26] at A_f0 A_f1
          have raw26_R_0 := R_0
          have raw26_R_f0 := R_f0
          have raw26_R_1 := R_1
          have raw26_R_f1 := R_f1
          have raw26_Q_0 := Q_0
          have raw26_Q_1 := Q_1
          have raw26_X_0 := X_0
          have raw26_X_f0 := X_f0
          have raw26_X_1 := X_1
          have raw26_X_f1 := X_f1
          have raw26_N_0 := N_0
          have raw26_N_1 := N_1
          have raw26_N_2 := N_2
          have raw26_N_3 := N_3
          have raw26_N_4 := N_4
          have raw26_A_0 := A_0
          have raw26_A_1 := A_1
          have raw26_A_f0 := A_f0
          have raw26_A_f1 := A_f1
          rw [hw26, hw25] at raw26_R_0 raw26_R_f0 raw26_R_1 raw26_R_f1 raw26_Q_0 raw26_Q_1 raw26_X_0 raw26_X_f0 raw26_X_1 raw26_X_f1 raw26_N_0 raw26_N_1 raw26_N_2 raw26_N_3 raw26_N_4 raw26_A_0 raw26_A_1 raw26_A_f0 raw26_A_f1
          obtain ⟨w27, hw27⟩ : ∃ W, W = w26.alloc (.cells #[.int .i64 2, .int .i64 2, .int .i64 2, .int .i64 3, .int .i64 1] 3) := ⟨_, rfl⟩
          have z27 : Below w26.heap.size w26 w27 := by rw [hw27]; exact (Below.refl _ _).alloc (Nat.le_refl _) _
          have s27 : w27.heap.size = w26.heap.size + 1 := by rw [hw27]; simp
          have hb27 := turn_on' hb26 (z27.mono (by omega))
          replace HC := HC.below' z27 (by omega)
          replace R_0 := bxc z27 R_0
          replace R_f0 := bxf z27 R_f0
          replace R_1 := bxc z27 R_1
          replace R_f1 := bxf z27 R_f1
          replace Q_0 := bxc z27 Q_0
          replace Q_1 := bxc z27 Q_1
          replace X_0 := bxc z27 X_0
          replace X_f0 := bxf z27 X_f0
          replace X_1 := bxc z27 X_1
          replace X_f1 := bxf z27 X_f1
          replace oq := oq.below z27 (by omega)
          replace oat := oat.below z27 (by omega)
          replace N_0 := bxc z27 N_0
          replace N_1 := bxc z27 N_1
          replace N_2 := bxc z27 N_2
          replace N_3 := bxc z27 N_3
          replace N_4 := bxc z27 N_4
          replace A_0 := bxc z27 A_0
          replace A_1 := bxc z27 A_1
          replace A_f0 := bxf z27 A_f0
          replace A_f1 := bxf z27 A_f1
          have e27 : w26.heap.size = w13.heap.size + 1 + 1 := by omega
          have M_0 : w27.cell? ⟨w26.heap.size, 0, none⟩ = some (.int .i64 2) := by rw [hw27]; exact box_cell (Below.refl _ _) rfl
          have M_1 : w27.cell? ⟨w26.heap.size, 1, none⟩ = some (.int .i64 2) := by rw [hw27]; exact box_cell (Below.refl _ _) rfl
          have M_2 : w27.cell? ⟨w26.heap.size, 2, none⟩ = some (.int .i64 2) := by rw [hw27]; exact box_cell (Below.refl _ _) rfl
          have M_3 : w27.cell? ⟨w26.heap.size, 3, none⟩ = some (.int .i64 3) := by rw [hw27]; exact box_cell (Below.refl _ _) rfl
          have M_4 : w27.cell? ⟨w26.heap.size, 4, none⟩ = some (.int .i64 1) := by rw [hw27]; exact box_cell (Below.refl _ _) rfl
          rw [e27] at M_0 M_1 M_2 M_3 M_4
          have raw27_R_0 := R_0
          have raw27_R_f0 := R_f0
          have raw27_R_1 := R_1
          have raw27_R_f1 := R_f1
          have raw27_Q_0 := Q_0
          have raw27_Q_1 := Q_1
          have raw27_X_0 := X_0
          have raw27_X_f0 := X_f0
          have raw27_X_1 := X_1
          have raw27_X_f1 := X_f1
          have raw27_N_0 := N_0
          have raw27_N_1 := N_1
          have raw27_N_2 := N_2
          have raw27_N_3 := N_3
          have raw27_N_4 := N_4
          have raw27_A_0 := A_0
          have raw27_A_1 := A_1
          have raw27_A_f0 := A_f0
          have raw27_A_f1 := A_f1
          have raw27_M_0 := M_0
          have raw27_M_1 := M_1
          have raw27_M_2 := M_2
          have raw27_M_3 := M_3
          have raw27_M_4 := M_4
          rw [hw27, hw26, hw25] at raw27_R_0 raw27_R_f0 raw27_R_1 raw27_R_f1 raw27_Q_0 raw27_Q_1 raw27_X_0 raw27_X_f0 raw27_X_1 raw27_X_f1 raw27_N_0 raw27_N_1 raw27_N_2 raw27_N_3 raw27_N_4 raw27_A_0 raw27_A_1 raw27_A_f0 raw27_A_f1 raw27_M_0 raw27_M_1 raw27_M_2 raw27_M_3 raw27_M_4
          go_wp2_with fail
          rw [← hw25]
          rw [← hw26]
          rw [← hw27]
          clear hw27 hw26 hw25
          clear old25_R_0 old25_R_1 old25_Q_0 old25_Q_1 old25_X_0 old25_X_1 raw25_R_0 raw25_R_f0 raw25_R_1 raw25_R_f1 raw25_Q_0 raw25_Q_1 raw25_X_0 raw25_X_f0 raw25_X_1 raw25_X_f1 raw25_N_0 raw25_N_1 raw25_N_2 raw25_N_3 raw25_N_4 raw26_R_0 raw26_R_f0 raw26_R_1 raw26_R_f1 raw26_Q_0 raw26_Q_1 raw26_X_0 raw26_X_f0 raw26_X_1 raw26_X_f1 raw26_N_0 raw26_N_1 raw26_N_2 raw26_N_3 raw26_N_4 raw26_A_0 raw26_A_1 raw26_A_f0 raw26_A_f1 raw27_R_0 raw27_R_f0 raw27_R_1 raw27_R_f1 raw27_Q_0 raw27_Q_1 raw27_X_0 raw27_X_f0 raw27_X_1 raw27_X_f1 raw27_N_0 raw27_N_1 raw27_N_2 raw27_N_3 raw27_N_4 raw27_A_0 raw27_A_1 raw27_A_f0 raw27_A_f1 raw27_M_0 raw27_M_1 raw27_M_2 raw27_M_3 raw27_M_4
          have HC_o := HC
          clear HC
          refine (l1Below_any _ cb ba bn bc 4 (by omega) HC_o).mono ?_
          rintro e w28 ⟨v0, rfl, hv0, hv1, hv2, HC, z28⟩
          clear HC_o
          have s29 := Nat.le_of_eq z28.size
          have s29' := Nat.le_of_eq z28.size.symm
          replace z28 := z28.turn
          have hb29 := hb27.trans z28
          replace R_0 := txc z28 R_0
          replace R_f0 := txf z28 R_f0
          replace R_1 := txc z28 R_1
          replace R_f1 := txf z28 R_f1
          replace Q_0 := txc z28 Q_0
          replace Q_1 := txc z28 Q_1
          replace X_0 := txc z28 X_0
          replace X_f0 := txf z28 X_f0
          replace X_1 := txc z28 X_1
          replace X_f1 := txf z28 X_f1
          replace oq := oq.turn z28 (by omega)
          replace oat := oat.turn z28 (by omega)
          replace N_0 := txc z28 N_0
          replace N_1 := txc z28 N_1
          replace N_2 := txc z28 N_2
          replace N_3 := txc z28 N_3
          replace N_4 := txc z28 N_4
          replace A_0 := txc z28 A_0
          replace A_1 := txc z28 A_1
          replace A_f0 := txf z28 A_f0
          replace A_f1 := txf z28 A_f1
          replace M_0 := txc z28 M_0
          replace M_1 := txc z28 M_1
          replace M_2 := txc z28 M_2
          replace M_3 := txc z28 M_3
          replace M_4 := txc z28 M_4
          obtain ⟨V0, rfl⟩ := Int.eq_ofNat_of_zero_le hv0
          have hV0 : V0 ≤ 3 := by have := hv1 (by omega); omega
          clear hv0 hv1 hv2
          have hAB : hi6 ≤ w13.heap.size + 1 ∧ w13.heap.size + 1 + 1 ≤ w28.heap.size := by omega
          have HW0 : Hid (WSt (w8.heap.size) (w13.heap.size + 1) w28 (ByteArray.mk #[116]) ab an ac [] (maxV x.1 []) w28) := Lib.hid ⟨none, 0, 0, A_0, A_1, A_f1, X_0, X_f0, X_1, X_f1, (own_nil_S (B := w13.heap.size + 1 + 1)).mono (Nat.le_refl _) (by omega), PF.refl _ _ _, by omega⟩
          clear N_0 N_1 N_2 N_3 N_4 M_0 M_1 M_2 M_3 M_4 A_0 A_1 A_f0 A_f1 X_0 X_f0 X_1 X_f1
          obtain ⟨wA, rfl⟩ : ∃ W, W = w28 := ⟨_, rfl⟩
          go_wp2_with fail
          go_loopw [11, 12] (fun v i wr => ∃ (i9 v9 : Nat) (vs : List Int), i9 ≤ 2 ∧ v9 ≤ 3 ∧ i = .int .i64 (i9 : Int) ∧ v = .int .i64 (v9 : Int) ∧ vs.length = i9 ∧ Hid (∀ u ∈ vs, 0 ≤ u ∧ u ≤ 3) ∧ Hid (WSt (w8.heap.size) (w13.heap.size + 1) wA (ByteArray.mk #[116]) ab an ac vs (maxV x.1 vs) wr)) (fun _ i _ => 2 - (intOf i).toNat)
          case atStart => exact ⟨0, V0, [], by omega, hV0, rfl, rfl, rfl, Lib.hid (fun u hu => by cases hu), HW0⟩
          case round =>
            clear HW0
            obtain ⟨i9, v9, vs, hi9, hv9, rfl, rfl, hvl, HVS, HW⟩ := hrel
            obtain ⟨wv, rfl⟩ : ∃ W, W = wr := ⟨_, rfl⟩
            obtain ⟨b, n, c, A_0, A_1, A_f1, X_0, X_f0, X_1, X_f1, ov, hpf, hsz⟩ := HW.out
            clear HW
            obtain ⟨mc, hmc⟩ : ∃ q, maxV x.1 vs = q := ⟨_, rfl⟩
            have hmr := maxV_rng (vs := vs) (c := x.1) hx4 HVS.out
            rw [hmc] at X_0 hmr
            by_cases hii : i9 < 2
            · have hiI : (i9 : Int) < 2 := by omega
              obtain ⟨na, nn, nc, wn, hrn, on_, hbn, hzn⟩ := own_num 32 ov (r := (v9 : Int)) ⟨by omega, by omega⟩ (Nat.le_refl _) hsz (by omega) rfl
              have sn := hbn.size
              have a1o := A_1
              replace A_0 := bxc hbn A_0
              replace A_1 := bxc hbn A_1
              replace A_f1 := bxf hbn A_f1
              replace X_0 := bxc hbn X_0
              replace X_f0 := bxf hbn X_f0
              replace X_1 := bxc hbn X_1
              replace X_f1 := bxf hbn X_f1
              have hpn := hpf.trans (PF.of (X := w8.heap.size) (hi := w13.heap.size + 1) hbn (by omega))
              clear hpf ov hbn
              go_wp2_with (at_builtin; refine wpList_app_run hrn rfl rfl rfl rfl rfl ?_)
              have HVS2 : Hid (∀ u ∈ vs ++ [(v9 : Int)], 0 ≤ u ∧ u ≤ 3) := Lib.hid (fun u hu => by
                rcases List.mem_append.1 hu with hu | hu
                · exact HVS.out u hu
                · simp at hu; omega)
              have HN : Hid (WSt (w8.heap.size) (w13.heap.size + 1) wA (ByteArray.mk #[116]) ab an ac (vs ++ [(v9 : Int)]) (maxV x.1 (vs ++ [(v9 : Int)])) ((wn.setCell ⟨w13.heap.size + 1, 1, none⟩ (.slice na nn nc)).setCell ⟨w8.heap.size, 0, none⟩ (.int .i64 (max mc ((v9 : Int) + 1))))) := Lib.hid (by
                rw [maxV_snoc, hmc]
                have x0 : (wn.setCell ⟨w13.heap.size + 1, 1, none⟩ (.slice na nn nc)).cell? ⟨w8.heap.size, 0, none⟩ = some (.int .i64 mc) := (World.cell?_of_block (a := ⟨w8.heap.size, 0, none⟩) (Below.heap_setCell _ _ _ _ (by simp only []; omega))).trans X_0
                have x1 : (wn.setCell ⟨w13.heap.size + 1, 1, none⟩ (.slice na nn nc)).cell? ⟨w8.heap.size, 1, none⟩ = some (.slice ab an ac) := (World.cell?_of_block (a := ⟨w8.heap.size, 1, none⟩) (Below.heap_setCell _ _ _ _ (by simp only []; omega))).trans X_1
                have xf0 : (wn.setCell ⟨w13.heap.size + 1, 1, none⟩ (.slice na nn nc)).frozen? ⟨w8.heap.size, 0, none⟩ = false := (World.frozen?_of_block (a := ⟨w8.heap.size, 0, none⟩) (Below.heap_setCell _ _ _ _ (by simp only []; omega))).trans X_f0
                have xf1 : (wn.setCell ⟨w13.heap.size + 1, 1, none⟩ (.slice na nn nc)).frozen? ⟨w8.heap.size, 1, none⟩ = false := (World.frozen?_of_block (a := ⟨w8.heap.size, 1, none⟩) (Below.heap_setCell _ _ _ _ (by simp only []; omega))).trans X_f1
                refine ⟨na, nn, nc, (World.cell?_of_block (a := ⟨w13.heap.size + 1, 0, none⟩) (Below.heap_setCell _ _ _ _ (by simp only []; omega))).trans (by simp [go_sem, A_0]), (World.cell?_of_block (a := ⟨w13.heap.size + 1, 1, none⟩) (Below.heap_setCell _ _ _ _ (by simp only []; omega))).trans (by simp [go_sem, A_1]), (World.frozen?_of_block (a := ⟨w13.heap.size + 1, 1, none⟩) (Below.heap_setCell _ _ _ _ (by simp only []; omega))).trans (by simp [go_sem, A_f1]), by simp [go_sem, x0], by simp [go_sem, xf0], by simp [go_sem, x1], by simp [go_sem, xf1], ?_, ?_, ?_⟩
                · exact (Own.setOut (Own.setOut on_ rfl (by simp only []; omega)) rfl (by simp only []; omega)).mono (Nat.le_refl _) (by simp [World.setCell])
                · exact (hpn.set (p := ⟨w13.heap.size + 1, 1, none⟩) (.inr (Nat.le_refl _)) _).set (p := ⟨w8.heap.size, 0, none⟩) (.inl rfl) _
                · simp [World.setCell]; omega)
              clear A_0 A_1 A_f1 X_0 X_f0 X_1 X_f1 hpn on_ a1o
              have hmod : ((v9 : Int) + 1) % 4 = (((v9 + 1) % 4 : Nat) : Int) := by omega
              go_roundw
              case rel => exact ⟨i9 + 1, (v9 + 1) % 4, vs ++ [(v9 : Int)], by omega, by omega, by go_num, by rw [hmod], by rw [List.length_append, hvl]; rfl, HVS2, HN⟩
              case measure => simp [intOf]; omega
            · obtain rfl : i9 = 2 := by omega
              have hiI : ¬ ((2 : Nat) : Int) < 2 := by omega
              have zI : Below (w8.heap.size) wA wv := hpf.below (by omega) (Nat.le_refl _)
              have oak := hpf.own oat (by omega) (.inl (by omega))
              clear oat
              have oAt : Own oA (w13.heap.size + 1 + 1) wv.heap.size wv [.string (ByteArray.mk #[116]), .slice b n c] ((ByteArray.mk #[116]), vs) := oA_mk (x := ((ByteArray.mk #[116]), vs)) (show (ByteArray.mk #[116]).size ≤ 9223372036854775807 by decide) ov (Nat.le_refl _) (Nat.le_refl _)
              obtain ⟨na, nn, nc, wn, hrn, on_, hzn, hzs⟩ := own_atom 27 oak oAt (Nat.le_refl _) (by omega) (by omega) hsz (by omega) rfl
              have sI := zI.size
              have hzB : Below (w8.heap.size + 1) wv wn := hzn.below (by omega)
              have hS1 := zI.trans ((hzB.mono (by omega)).trans (Below.setCell (p := ⟨w8.heap.size, 1, none⟩) (Below.refl (w8.heap.size) wn) (by simp only []; omega) (.slice na nn nc)))
              have y0 := bxc hzB X_0
              have yf0 := bxf hzB X_f0
              have y1 := bxc hzB X_1
              have yf1 := bxf hzB X_f1
              have HOS : Hid (L7St w cb ba bn bc (w5.heap.size) (w8.heap.size) lo1 hi1 q0 qb qn qc y k' (wn.setCell ⟨w8.heap.size, 1, none⟩ (.slice na nn nc))) := Lib.hid ⟨(mc, x.2 ++ [((ByteArray.mk #[116]), vs)]), na, nn, nc, by rw [List.length_append]; simp; omega, hmr,
                (hS1.cell (p := ⟨w.heap.size, 0, none⟩) (by simp only []; omega)).trans R_0, (hS1.frozen (p := ⟨w.heap.size, 0, none⟩) (by simp only []; omega)).trans R_f0, (hS1.cell (p := ⟨w.heap.size, 1, none⟩) (by simp only []; omega)).trans R_1, (hS1.frozen (p := ⟨w.heap.size, 1, none⟩) (by simp only []; omega)).trans R_f1,
                (hS1.cell (p := ⟨w5.heap.size, 0, none⟩) (by simp only []; omega)).trans Q_0, (hS1.cell (p := ⟨w5.heap.size, 1, none⟩) (by simp only []; omega)).trans Q_1,
                by simp [go_sem, y0], by simp [go_sem, yf0], by simp [go_sem, y1], by simp [go_sem, yf1],
                oq.below hS1 (by omega), (own_off on_ rfl (by simp only []; omega)).mono (Nat.le_refl _) (by simp [World.setCell]), HC.below' hS1 (by omega), turn_on' hb29 (hS1.mono (by omega)), by simp [World.setCell]; omega⟩
              clear y0 on_ oAt oak ov hpf hS1 hzB zI
              go_wp2_with (at_builtin; refine wpList_app_run hrn rfl rfl rfl rfl rfl ?_)
              go_roundw
              case rel => exact ⟨k', by omega, by go_num, HOS⟩
              case measure => simp [intOf]
        · skip
          obtain ⟨w30, hw30⟩ : ∃ W, W = w13.alloc (.cells #[.string (ByteArray.mk #[114]), .string (ByteArray.mk #[115]), .string (ByteArray.mk #[116]), .string (ByteArray.mk #[117]), .string (ByteArray.mk #[118])] 9) := ⟨_, rfl⟩
          have z30 : Below w13.heap.size w13 w30 := by rw [hw30]; exact (Below.refl _ _).alloc (Nat.le_refl _) _
          have s30 : w30.heap.size = w13.heap.size + 1 := by rw [hw30]; simp
          have hb30 := turn_on' hb14 (z30.mono (by omega))
          have old30_R_0 := R_0
          have old30_R_1 := R_1
          have old30_Q_0 := Q_0
          have old30_Q_1 := Q_1
          have old30_X_0 := X_0
          have old30_X_1 := X_1
          replace HC := HC.below' z30 (by omega)
          replace R_0 := bxc z30 R_0
          replace R_f0 := bxf z30 R_f0
          replace R_1 := bxc z30 R_1
          replace R_f1 := bxf z30 R_f1
          replace Q_0 := bxc z30 Q_0
          replace Q_1 := bxc z30 Q_1
          replace X_0 := bxc z30 X_0
          replace X_f0 := bxf z30 X_f0
          replace X_1 := bxc z30 X_1
          replace X_f1 := bxf z30 X_f1
          replace oq := oq.below z30 (by omega)
          replace oat := oat.below z30 (by omega)
          have N_0 : w30.cell? ⟨w13.heap.size, 0, none⟩ = some (.string (ByteArray.mk #[114])) := by rw [hw30]; exact box_cell (Below.refl _ _) rfl
          have N_1 : w30.cell? ⟨w13.heap.size, 1, none⟩ = some (.string (ByteArray.mk #[115])) := by rw [hw30]; exact box_cell (Below.refl _ _) rfl
          have N_2 : w30.cell? ⟨w13.heap.size, 2, none⟩ = some (.string (ByteArray.mk #[116])) := by rw [hw30]; exact box_cell (Below.refl _ _) rfl
          have N_3 : w30.cell? ⟨w13.heap.size, 3, none⟩ = some (.string (ByteArray.mk #[117])) := by rw [hw30]; exact box_cell (Below.refl _ _) rfl
          have N_4 : w30.cell? ⟨w13.heap.size, 4, none⟩ = some (.string (ByteArray.mk #[118])) := by rw [hw30]; exact box_cell (Below.refl _ _) rfl
          have raw30_R_0 := R_0
          have raw30_R_f0 := R_f0
          have raw30_R_1 := R_1
          have raw30_R_f1 := R_f1
          have raw30_Q_0 := Q_0
          have raw30_Q_1 := Q_1
          have raw30_X_0 := X_0
          have raw30_X_f0 := X_f0
          have raw30_X_1 := X_1
          have raw30_X_f1 := X_f1
          have raw30_N_0 := N_0
          have raw30_N_1 := N_1
          have raw30_N_2 := N_2
          have raw30_N_3 := N_3
          have raw30_N_4 := N_4
          rw [hw30] at raw30_R_0 raw30_R_f0 raw30_R_1 raw30_R_f1 raw30_Q_0 raw30_Q_1 raw30_X_0 raw30_X_f0 raw30_X_1 raw30_X_f1 raw30_N_0 raw30_N_1 raw30_N_2 raw30_N_3 raw30_N_4
          obtain ⟨w31, hw31⟩ : ∃ W, W = w30.alloc (.cells #[.string (ByteArray.mk #[117]), .slice none 0 0] 48) := ⟨_, rfl⟩
          have z31 : Below w30.heap.size w30 w31 := by rw [hw31]; exact (Below.refl _ _).alloc (Nat.le_refl _) _
          have s31 : w31.heap.size = w30.heap.size + 1 := by rw [hw31]; simp
          have hb31 := turn_on' hb30 (z31.mono (by omega))
          replace HC := HC.below' z31 (by omega)
          replace R_0 := bxc z31 R_0
          replace R_f0 := bxf z31 R_f0
          replace R_1 := bxc z31 R_1
          replace R_f1 := bxf z31 R_f1
          replace Q_0 := bxc z31 Q_0
          replace Q_1 := bxc z31 Q_1
          replace X_0 := bxc z31 X_0
          replace X_f0 := bxf z31 X_f0
          replace X_1 := bxc z31 X_1
          replace X_f1 := bxf z31 X_f1
          replace oq := oq.below z31 (by omega)
          replace oat := oat.below z31 (by omega)
          replace N_0 := bxc z31 N_0
          replace N_1 := bxc z31 N_1
          replace N_2 := bxc z31 N_2
          replace N_3 := bxc z31 N_3
          replace N_4 := bxc z31 N_4
          have e31 : w30.heap.size = w13.heap.size + 1 := by omega
          have A_0 : w31.cell? ⟨w30.heap.size, 0, none⟩ = some (.string (ByteArray.mk #[117])) := by rw [hw31]; exact box_cell (Below.refl _ _) rfl
          have A_1 : w31.cell? ⟨w30.heap.size, 1, none⟩ = some (.slice none 0 0) := by rw [hw31]; exact box_cell (Below.refl _ _) rfl
          rw [e31] at A_0 A_1
          have A_f0 : w31.frozen? ⟨w30.heap.size, 0, none⟩ = false := by rw [hw31]; exact box_frozen (Below.refl _ _)
          have A_f1 : w31.frozen? ⟨w30.heap.size, 1, none⟩ = false := by rw [hw31]; exact box_frozen (Below.refl _ _)
          rw [e31] at A_f0 A_f1
          have raw31_R_0 := R_0
          have raw31_R_f0 := R_f0
          have raw31_R_1 := R_1
          have raw31_R_f1 := R_f1
          have raw31_Q_0 := Q_0
          have raw31_Q_1 := Q_1
          have raw31_X_0 := X_0
          have raw31_X_f0 := X_f0
          have raw31_X_1 := X_1
          have raw31_X_f1 := X_f1
          have raw31_N_0 := N_0
          have raw31_N_1 := N_1
          have raw31_N_2 := N_2
          have raw31_N_3 := N_3
          have raw31_N_4 := N_4
          have raw31_A_0 := A_0
          have raw31_A_1 := A_1
          have raw31_A_f0 := A_f0
          have raw31_A_f1 := A_f1
          rw [hw31, hw30] at raw31_R_0 raw31_R_f0 raw31_R_1 raw31_R_f1 raw31_Q_0 raw31_Q_1 raw31_X_0 raw31_X_f0 raw31_X_1 raw31_X_f1 raw31_N_0 raw31_N_1 raw31_N_2 raw31_N_3 raw31_N_4 raw31_A_0 raw31_A_1 raw31_A_f0 raw31_A_f1
          obtain ⟨w32, hw32⟩ : ∃ W, W = w31.alloc (.cells #[.int .i64 2, .int .i64 2, .int .i64 2, .int .i64 3, .int .i64 1] 3) := ⟨_, rfl⟩
          have z32 : Below w31.heap.size w31 w32 := by rw [hw32]; exact (Below.refl _ _).alloc (Nat.le_refl _) _
          have s32 : w32.heap.size = w31.heap.size + 1 := by rw [hw32]; simp
          have hb32 := turn_on' hb31 (z32.mono (by omega))
          replace HC := HC.below' z32 (by omega)
          replace R_0 := bxc z32 R_0
          replace R_f0 := bxf z32 R_f0
          replace R_1 := bxc z32 R_1
          replace R_f1 := bxf z32 R_f1
          replace Q_0 := bxc z32 Q_0
          replace Q_1 := bxc z32 Q_1
          replace X_0 := bxc z32 X_0
          replace X_f0 := bxf z32 X_f0
          replace X_1 := bxc z32 X_1
          replace X_f1 := bxf z32 X_f1
          replace oq := oq.below z32 (by omega)
          replace oat := oat.below z32 (by omega)
          replace N_0 := bxc z32 N_0
          replace N_1 := bxc z32 N_1
          replace N_2 := bxc z32 N_2
          replace N_3 := bxc z32 N_3
          replace N_4 := bxc z32 N_4
          replace A_0 := bxc z32 A_0
          replace A_1 := bxc z32 A_1
          replace A_f0 := bxf z32 A_f0
          replace A_f1 := bxf z32 A_f1
          have e32 : w31.heap.size = w13.heap.size + 1 + 1 := by omega
          have M_0 : w32.cell? ⟨w31.heap.size, 0, none⟩ = some (.int .i64 2) := by rw [hw32]; exact box_cell (Below.refl _ _) rfl
          have M_1 : w32.cell? ⟨w31.heap.size, 1, none⟩ = some (.int .i64 2) := by rw [hw32]; exact box_cell (Below.refl _ _) rfl
          have M_2 : w32.cell? ⟨w31.heap.size, 2, none⟩ = some (.int .i64 2) := by rw [hw32]; exact box_cell (Below.refl _ _) rfl
          have M_3 : w32.cell? ⟨w31.heap.size, 3, none⟩ = some (.int .i64 3) := by rw [hw32]; exact box_cell (Below.refl _ _) rfl
          have M_4 : w32.cell? ⟨w31.heap.size, 4, none⟩ = some (.int .i64 1) := by rw [hw32]; exact box_cell (Below.refl _ _) rfl
          rw [e32] at M_0 M_1 M_2 M_3 M_4
          have raw32_R_0 := R_0
          have raw32_R_f0 := R_f0
          have raw32_R_1 := R_1
          have raw32_R_f1 := R_f1
          have raw32_Q_0 := Q_0
          have raw32_Q_1 := Q_1
          have raw32_X_0 := X_0
          have raw32_X_f0 := X_f0
          have raw32_X_1 := X_1
          have raw32_X_f1 := X_f1
          have raw32_N_0 := N_0
          have raw32_N_1 := N_1
          have raw32_N_2 := N_2
          have raw32_N_3 := N_3
          have raw32_N_4 := N_4
          have raw32_A_0 := A_0
          have raw32_A_1 := A_1
          have raw32_A_f0 := A_f0
          have raw32_A_f1 := A_f1
          have raw32_M_0 := M_0
          have raw32_M_1 := M_1
          have raw32_M_2 := M_2
          have raw32_M_3 := M_3
          have raw32_M_4 := M_4
          rw [hw32, hw31, hw30] at raw32_R_0 raw32_R_f0 raw32_R_1 raw32_R_f1 raw32_Q_0 raw32_Q_1 raw32_X_0 raw32_X_f0 raw32_X_1 raw32_X_f1 raw32_N_0 raw32_N_1 raw32_N_2 raw32_N_3 raw32_N_4 raw32_A_0 raw32_A_1 raw32_A_f0 raw32_A_f1 raw32_M_0 raw32_M_1 raw32_M_2 raw32_M_3 raw32_M_4
          go_wp2_with fail
          rw [← hw30]
          rw [← hw31]
          rw [← hw32]
          clear hw32 hw31 hw30
          clear old30_R_0 old30_R_1 old30_Q_0 old30_Q_1 old30_X_0 old30_X_1 raw30_R_0 raw30_R_f0 raw30_R_1 raw30_R_f1 raw30_Q_0 raw30_Q_1 raw30_X_0 raw30_X_f0 raw30_X_1 raw30_X_f1 raw30_N_0 raw30_N_1 raw30_N_2 raw30_N_3 raw30_N_4 raw31_R_0 raw31_R_f0 raw31_R_1 raw31_R_f1 raw31_Q_0 raw31_Q_1 raw31_X_0 raw31_X_f0 raw31_X_1 raw31_X_f1 raw31_N_0 raw31_N_1 raw31_N_2 raw31_N_3 raw31_N_4 raw31_A_0 raw31_A_1 raw31_A_f0 raw31_A_f1 raw32_R_0 raw32_R_f0 raw32_R_1 raw32_R_f1 raw32_Q_0 raw32_Q_1 raw32_X_0 raw32_X_f0 raw32_X_1 raw32_X_f1 raw32_N_0 raw32_N_1 raw32_N_2 raw32_N_3 raw32_N_4 raw32_A_0 raw32_A_1 raw32_A_f0 raw32_A_f1 raw32_M_0 raw32_M_1 raw32_M_2 raw32_M_3 raw32_M_4
          have HC_o := HC
          clear HC
          refine (l1Below_any _ cb ba bn bc 4 (by omega) HC_o).mono ?_
          rintro e w33 ⟨v0, rfl, hv0, hv1, hv2, HC, z33⟩
          clear HC_o
          have s34 := Nat.le_of_eq z33.size
          have s34' := Nat.le_of_eq z33.size.symm
          replace z33 := z33.turn
          have hb34 := hb32.trans z33
          replace R_0 := txc z33 R_0
          replace R_f0 := txf z33 R_f0
          replace R_1 := txc z33 R_1
          replace R_f1 := txf z33 R_f1
          replace Q_0 := txc z33 Q_0
          replace Q_1 := txc z33 Q_1
          replace X_0 := txc z33 X_0
          replace X_f0 := txf z33 X_f0
          replace X_1 := txc z33 X_1
          replace X_f1 := txf z33 X_f1
          replace oq := oq.turn z33 (by omega)
          replace oat := oat.turn z33 (by omega)
          replace N_0 := txc z33 N_0
          replace N_1 := txc z33 N_1
          replace N_2 := txc z33 N_2
          replace N_3 := txc z33 N_3
          replace N_4 := txc z33 N_4
          replace A_0 := txc z33 A_0
          replace A_1 := txc z33 A_1
          replace A_f0 := txf z33 A_f0
          replace A_f1 := txf z33 A_f1
          replace M_0 := txc z33 M_0
          replace M_1 := txc z33 M_1
          replace M_2 := txc z33 M_2
          replace M_3 := txc z33 M_3
          replace M_4 := txc z33 M_4
          obtain ⟨V0, rfl⟩ := Int.eq_ofNat_of_zero_le hv0
          have hV0 : V0 ≤ 3 := by have := hv1 (by omega); omega
          clear hv0 hv1 hv2
          have hAB : hi6 ≤ w13.heap.size + 1 ∧ w13.heap.size + 1 + 1 ≤ w33.heap.size := by omega
          have HW0 : Hid (WSt (w8.heap.size) (w13.heap.size + 1) w33 (ByteArray.mk #[117]) ab an ac [] (maxV x.1 []) w33) := Lib.hid ⟨none, 0, 0, A_0, A_1, A_f1, X_0, X_f0, X_1, X_f1, (own_nil_S (B := w13.heap.size + 1 + 1)).mono (Nat.le_refl _) (by omega), PF.refl _ _ _, by omega⟩
          clear N_0 N_1 N_2 N_3 N_4 M_0 M_1 M_2 M_3 M_4 A_0 A_1 A_f0 A_f1 X_0 X_f0 X_1 X_f1
          obtain ⟨wA, rfl⟩ : ∃ W, W = w33 := ⟨_, rfl⟩
          go_wp2_with fail
          go_loopw [11, 12] (fun v i wr => ∃ (i9 v9 : Nat) (vs : List Int), i9 ≤ 3 ∧ v9 ≤ 3 ∧ i = .int .i64 (i9 : Int) ∧ v = .int .i64 (v9 : Int) ∧ vs.length = i9 ∧ Hid (∀ u ∈ vs, 0 ≤ u ∧ u ≤ 3) ∧ Hid (WSt (w8.heap.size) (w13.heap.size + 1) wA (ByteArray.mk #[117]) ab an ac vs (maxV x.1 vs) wr)) (fun _ i _ => 3 - (intOf i).toNat)
          case atStart => exact ⟨0, V0, [], by omega, hV0, rfl, rfl, rfl, Lib.hid (fun u hu => by cases hu), HW0⟩
          case round =>
            clear HW0
            obtain ⟨i9, v9, vs, hi9, hv9, rfl, rfl, hvl, HVS, HW⟩ := hrel
            obtain ⟨wv, rfl⟩ : ∃ W, W = wr := ⟨_, rfl⟩
            obtain ⟨b, n, c, A_0, A_1, A_f1, X_0, X_f0, X_1, X_f1, ov, hpf, hsz⟩ := HW.out
            clear HW
            obtain ⟨mc, hmc⟩ : ∃ q, maxV x.1 vs = q := ⟨_, rfl⟩
            have hmr := maxV_rng (vs := vs) (c := x.1) hx4 HVS.out
            rw [hmc] at X_0 hmr
            by_cases hii : i9 < 3
            · have hiI : (i9 : Int) < 3 := by omega
              obtain ⟨na, nn, nc, wn, hrn, on_, hbn, hzn⟩ := own_num 32 ov (r := (v9 : Int)) ⟨by omega, by omega⟩ (Nat.le_refl _) hsz (by omega) rfl
              have sn := hbn.size
              have a1o := A_1
              replace A_0 := bxc hbn A_0
              replace A_1 := bxc hbn A_1
              replace A_f1 := bxf hbn A_f1
              replace X_0 := bxc hbn X_0
              replace X_f0 := bxf hbn X_f0
              replace X_1 := bxc hbn X_1
              replace X_f1 := bxf hbn X_f1
              have hpn := hpf.trans (PF.of (X := w8.heap.size) (hi := w13.heap.size + 1) hbn (by omega))
              clear hpf ov hbn
              go_wp2_with (at_builtin; refine wpList_app_run hrn rfl rfl rfl rfl rfl ?_)
              have HVS2 : Hid (∀ u ∈ vs ++ [(v9 : Int)], 0 ≤ u ∧ u ≤ 3) := Lib.hid (fun u hu => by
                rcases List.mem_append.1 hu with hu | hu
                · exact HVS.out u hu
                · simp at hu; omega)
              have HN : Hid (WSt (w8.heap.size) (w13.heap.size + 1) wA (ByteArray.mk #[117]) ab an ac (vs ++ [(v9 : Int)]) (maxV x.1 (vs ++ [(v9 : Int)])) ((wn.setCell ⟨w13.heap.size + 1, 1, none⟩ (.slice na nn nc)).setCell ⟨w8.heap.size, 0, none⟩ (.int .i64 (max mc ((v9 : Int) + 1))))) := Lib.hid (by
                rw [maxV_snoc, hmc]
                have x0 : (wn.setCell ⟨w13.heap.size + 1, 1, none⟩ (.slice na nn nc)).cell? ⟨w8.heap.size, 0, none⟩ = some (.int .i64 mc) := (World.cell?_of_block (a := ⟨w8.heap.size, 0, none⟩) (Below.heap_setCell _ _ _ _ (by simp only []; omega))).trans X_0
                have x1 : (wn.setCell ⟨w13.heap.size + 1, 1, none⟩ (.slice na nn nc)).cell? ⟨w8.heap.size, 1, none⟩ = some (.slice ab an ac) := (World.cell?_of_block (a := ⟨w8.heap.size, 1, none⟩) (Below.heap_setCell _ _ _ _ (by simp only []; omega))).trans X_1
                have xf0 : (wn.setCell ⟨w13.heap.size + 1, 1, none⟩ (.slice na nn nc)).frozen? ⟨w8.heap.size, 0, none⟩ = false := (World.frozen?_of_block (a := ⟨w8.heap.size, 0, none⟩) (Below.heap_setCell _ _ _ _ (by simp only []; omega))).trans X_f0
                have xf1 : (wn.setCell ⟨w13.heap.size + 1, 1, none⟩ (.slice na nn nc)).frozen? ⟨w8.heap.size, 1, none⟩ = false := (World.frozen?_of_block (a := ⟨w8.heap.size, 1, none⟩) (Below.heap_setCell _ _ _ _ (by simp only []; omega))).trans X_f1
                refine ⟨na, nn, nc, (World.cell?_of_block (a := ⟨w13.heap.size + 1, 0, none⟩) (Below.heap_setCell _ _ _ _ (by simp only []; omega))).trans (by simp [go_sem, A_0]), (World.cell?_of_block (a := ⟨w13.heap.size + 1, 1, none⟩) (Below.heap_setCell _ _ _ _ (by simp only []; omega))).trans (by simp [go_sem, A_1]), (World.frozen?_of_block (a := ⟨w13.heap.size + 1, 1, none⟩) (Below.heap_setCell _ _ _ _ (by simp only []; omega))).trans (by simp [go_sem, A_f1]), by simp [go_sem, x0], by simp [go_sem, xf0], by simp [go_sem, x1], by simp [go_sem, xf1], ?_, ?_, ?_⟩
                · exact (Own.setOut (Own.setOut on_ rfl (by simp only []; omega)) rfl (by simp only []; omega)).mono (Nat.le_refl _) (by simp [World.setCell])
                · exact (hpn.set (p := ⟨w13.heap.size + 1, 1, none⟩) (.inr (Nat.le_refl _)) _).set (p := ⟨w8.heap.size, 0, none⟩) (.inl rfl) _
                · simp [World.setCell]; omega)
              clear A_0 A_1 A_f1 X_0 X_f0 X_1 X_f1 hpn on_ a1o
              have hmod : ((v9 : Int) + 1) % 4 = (((v9 + 1) % 4 : Nat) : Int) := by omega
              go_roundw
              case rel => exact ⟨i9 + 1, (v9 + 1) % 4, vs ++ [(v9 : Int)], by omega, by omega, by go_num, by rw [hmod], by rw [List.length_append, hvl]; rfl, HVS2, HN⟩
              case measure => simp [intOf]; omega
            · obtain rfl : i9 = 3 := by omega
              have hiI : ¬ ((3 : Nat) : Int) < 3 := by omega
              have zI : Below (w8.heap.size) wA wv := hpf.below (by omega) (Nat.le_refl _)
              have oak := hpf.own oat (by omega) (.inl (by omega))
              clear oat
              have oAt : Own oA (w13.heap.size + 1 + 1) wv.heap.size wv [.string (ByteArray.mk #[117]), .slice b n c] ((ByteArray.mk #[117]), vs) := oA_mk (x := ((ByteArray.mk #[117]), vs)) (show (ByteArray.mk #[117]).size ≤ 9223372036854775807 by decide) ov (Nat.le_refl _) (Nat.le_refl _)
              obtain ⟨na, nn, nc, wn, hrn, on_, hzn, hzs⟩ := own_atom 27 oak oAt (Nat.le_refl _) (by omega) (by omega) hsz (by omega) rfl
              have sI := zI.size
              have hzB : Below (w8.heap.size + 1) wv wn := hzn.below (by omega)
              have hS1 := zI.trans ((hzB.mono (by omega)).trans (Below.setCell (p := ⟨w8.heap.size, 1, none⟩) (Below.refl (w8.heap.size) wn) (by simp only []; omega) (.slice na nn nc)))
              have y0 := bxc hzB X_0
              have yf0 := bxf hzB X_f0
              have y1 := bxc hzB X_1
              have yf1 := bxf hzB X_f1
              have HOS : Hid (L7St w cb ba bn bc (w5.heap.size) (w8.heap.size) lo1 hi1 q0 qb qn qc y k' (wn.setCell ⟨w8.heap.size, 1, none⟩ (.slice na nn nc))) := Lib.hid ⟨(mc, x.2 ++ [((ByteArray.mk #[117]), vs)]), na, nn, nc, by rw [List.length_append]; simp; omega, hmr,
                (hS1.cell (p := ⟨w.heap.size, 0, none⟩) (by simp only []; omega)).trans R_0, (hS1.frozen (p := ⟨w.heap.size, 0, none⟩) (by simp only []; omega)).trans R_f0, (hS1.cell (p := ⟨w.heap.size, 1, none⟩) (by simp only []; omega)).trans R_1, (hS1.frozen (p := ⟨w.heap.size, 1, none⟩) (by simp only []; omega)).trans R_f1,
                (hS1.cell (p := ⟨w5.heap.size, 0, none⟩) (by simp only []; omega)).trans Q_0, (hS1.cell (p := ⟨w5.heap.size, 1, none⟩) (by simp only []; omega)).trans Q_1,
                by simp [go_sem, y0], by simp [go_sem, yf0], by simp [go_sem, y1], by simp [go_sem, yf1],
                oq.below hS1 (by omega), (own_off on_ rfl (by simp only []; omega)).mono (Nat.le_refl _) (by simp [World.setCell]), HC.below' hS1 (by omega), turn_on' hb34 (hS1.mono (by omega)), by simp [World.setCell]; omega⟩
              clear y0 on_ oAt oak ov hpf hS1 hzB zI
              go_wp2_with (at_builtin; refine wpList_app_run hrn rfl rfl rfl rfl rfl ?_)
              go_roundw
              case rel => exact ⟨k', by omega, by go_num, HOS⟩
              case measure => simp [intOf]
        · skip
          obtain ⟨w35, hw35⟩ : ∃ W, W = w13.alloc (.cells #[.string (ByteArray.mk #[114]), .string (ByteArray.mk #[115]), .string (ByteArray.mk #[116]), .string (ByteArray.mk #[117]), .string (ByteArray.mk #[118])] 9) := ⟨_, rfl⟩
          have z35 : Below w13.heap.size w13 w35 := by rw [hw35]; exact (Below.refl _ _).alloc (Nat.le_refl _) _
          have s35 : w35.heap.size = w13.heap.size + 1 := by rw [hw35]; simp
          have hb35 := turn_on' hb14 (z35.mono (by omega))
          have old35_R_0 := R_0
          have old35_R_1 := R_1
          have old35_Q_0 := Q_0
          have old35_Q_1 := Q_1
          have old35_X_0 := X_0
          have old35_X_1 := X_1
          replace HC := HC.below' z35 (by omega)
          replace R_0 := bxc z35 R_0
          replace R_f0 := bxf z35 R_f0
          replace R_1 := bxc z35 R_1
          replace R_f1 := bxf z35 R_f1
          replace Q_0 := bxc z35 Q_0
          replace Q_1 := bxc z35 Q_1
          replace X_0 := bxc z35 X_0
          replace X_f0 := bxf z35 X_f0
          replace X_1 := bxc z35 X_1
          replace X_f1 := bxf z35 X_f1
          replace oq := oq.below z35 (by omega)
          replace oat := oat.below z35 (by omega)
          have N_0 : w35.cell? ⟨w13.heap.size, 0, none⟩ = some (.string (ByteArray.mk #[114])) := by rw [hw35]; exact box_cell (Below.refl _ _) rfl
          have N_1 : w35.cell? ⟨w13.heap.size, 1, none⟩ = some (.string (ByteArray.mk #[115])) := by rw [hw35]; exact box_cell (Below.refl _ _) rfl
          have N_2 : w35.cell? ⟨w13.heap.size, 2, none⟩ = some (.string (ByteArray.mk #[116])) := by rw [hw35]; exact box_cell (Below.refl _ _) rfl
          have N_3 : w35.cell? ⟨w13.heap.size, 3, none⟩ = some (.string (ByteArray.mk #[117])) := by rw [hw35]; exact box_cell (Below.refl _ _) rfl
          have N_4 : w35.cell? ⟨w13.heap.size, 4, none⟩ = some (.string (ByteArray.mk #[118])) := by rw [hw35]; exact box_cell (Below.refl _ _) rfl
          have raw35_R_0 := R_0
          have raw35_R_f0 := R_f0
          have raw35_R_1 := R_1
          have raw35_R_f1 := R_f1
          have raw35_Q_0 := Q_0
          have raw35_Q_1 := Q_1
          have raw35_X_0 := X_0
          have raw35_X_f0 := X_f0
          have raw35_X_1 := X_1
          have raw35_X_f1 := X_f1
          have raw35_N_0 := N_0
          have raw35_N_1 := N_1
          have raw35_N_2 := N_2
          have raw35_N_3 := N_3
          have raw35_N_4 := N_4
          rw [hw35] at raw35_R_0 raw35_R_f0 raw35_R_1 raw35_R_f1 raw35_Q_0 raw35_Q_1 raw35_X_0 raw35_X_f0 raw35_X_1 raw35_X_f1 raw35_N_0 raw35_N_1 raw35_N_2 raw35_N_3 raw35_N_4
          obtain ⟨w36, hw36⟩ : ∃ W, W = w35.alloc (.cells #[.string (ByteArray.mk #[118]), .slice none 0 0] 48) := ⟨_, rfl⟩
          have z36 : Below w35.heap.size w35 w36 := by rw [hw36]; exact (Below.refl _ _).alloc (Nat.le_refl _) _
          have s36 : w36.heap.size = w35.heap.size + 1 := by rw [hw36]; simp
          have hb36 := turn_on' hb35 (z36.mono (by omega))
          replace HC := HC.below' z36 (by omega)
          replace R_0 := bxc z36 R_0
          replace R_f0 := bxf z36 R_f0
          replace R_1 := bxc z36 R_1
          replace R_f1 := bxf z36 R_f1
          replace Q_0 := bxc z36 Q_0
          replace Q_1 := bxc z36 Q_1
          replace X_0 := bxc z36 X_0
          replace X_f0 := bxf z36 X_f0
          replace X_1 := bxc z36 X_1
          replace X_f1 := bxf z36 X_f1
          replace oq := oq.below z36 (by omega)
          replace oat := oat.below z36 (by omega)
          replace N_0 := bxc z36 N_0
          replace N_1 := bxc z36 N_1
          replace N_2 := bxc z36 N_2
          replace N_3 := bxc z36 N_3
          replace N_4 := bxc z36 N_4
          have e36 : w35.heap.size = w13.heap.size + 1 := by omega
          have A_0 : w36.cell? ⟨w35.heap.size, 0, none⟩ = some (.string (ByteArray.mk #[118])) := by rw [hw36]; exact box_cell (Below.refl _ _) rfl
          have A_1 : w36.cell? ⟨w35.heap.size, 1, none⟩ = some (.slice none 0 0) := by rw [hw36]; exact box_cell (Below.refl _ _) rfl
          rw [e36] at A_0 A_1
          have A_f0 : w36.frozen? ⟨w35.heap.size, 0, none⟩ = false := by rw [hw36]; exact box_frozen (Below.refl _ _)
          have A_f1 : w36.frozen? ⟨w35.heap.size, 1, none⟩ = false := by rw [hw36]; exact box_frozen (Below.refl _ _)
          rw [e36] at A_f0 A_f1
          have raw36_R_0 := R_0
          have raw36_R_f0 := R_f0
          have raw36_R_1 := R_1
          have raw36_R_f1 := R_f1
          have raw36_Q_0 := Q_0
          have raw36_Q_1 := Q_1
          have raw36_X_0 := X_0
          have raw36_X_f0 := X_f0
          have raw36_X_1 := X_1
          have raw36_X_f1 := X_f1
          have raw36_N_0 := N_0
          have raw36_N_1 := N_1
          have raw36_N_2 := N_2
          have raw36_N_3 := N_3
          have raw36_N_4 := N_4
          have raw36_A_0 := A_0
          have raw36_A_1 := A_1
          have raw36_A_f0 := A_f0
          have raw36_A_f1 := A_f1
          rw [hw36, hw35] at raw36_R_0 raw36_R_f0 raw36_R_1 raw36_R_f1 raw36_Q_0 raw36_Q_1 raw36_X_0 raw36_X_f0 raw36_X_1 raw36_X_f1 raw36_N_0 raw36_N_1 raw36_N_2 raw36_N_3 raw36_N_4 raw36_A_0 raw36_A_1 raw36_A_f0 raw36_A_f1
          obtain ⟨w37, hw37⟩ : ∃ W, W = w36.alloc (.cells #[.int .i64 2, .int .i64 2, .int .i64 2, .int .i64 3, .int .i64 1] 3) := ⟨_, rfl⟩
          have z37 : Below w36.heap.size w36 w37 := by rw [hw37]; exact (Below.refl _ _).alloc (Nat.le_refl _) _
          have s37 : w37.heap.size = w36.heap.size + 1 := by rw [hw37]; simp
          have hb37 := turn_on' hb36 (z37.mono (by omega))
          replace HC := HC.below' z37 (by omega)
          replace R_0 := bxc z37 R_0
          replace R_f0 := bxf z37 R_f0
          replace R_1 := bxc z37 R_1
          replace R_f1 := bxf z37 R_f1
          replace Q_0 := bxc z37 Q_0
          replace Q_1 := bxc z37 Q_1
          replace X_0 := bxc z37 X_0
          replace X_f0 := bxf z37 X_f0
          replace X_1 := bxc z37 X_1
          replace X_f1 := bxf z37 X_f1
          replace oq := oq.below z37 (by omega)
          replace oat := oat.below z37 (by omega)
          replace N_0 := bxc z37 N_0
          replace N_1 := bxc z37 N_1
          replace N_2 := bxc z37 N_2
          replace N_3 := bxc z37 N_3
          replace N_4 := bxc z37 N_4
          replace A_0 := bxc z37 A_0
          replace A_1 := bxc z37 A_1
          replace A_f0 := bxf z37 A_f0
          replace A_f1 := bxf z37 A_f1
          have e37 : w36.heap.size = w13.heap.size + 1 + 1 := by omega
          have M_0 : w37.cell? ⟨w36.heap.size, 0, none⟩ = some (.int .i64 2) := by rw [hw37]; exact box_cell (Below.refl _ _) rfl
          have M_1 : w37.cell? ⟨w36.heap.size, 1, none⟩ = some (.int .i64 2) := by rw [hw37]; exact box_cell (Below.refl _ _) rfl
          have M_2 : w37.cell? ⟨w36.heap.size, 2, none⟩ = some (.int .i64 2) := by rw [hw37]; exact box_cell (Below.refl _ _) rfl
          have M_3 : w37.cell? ⟨w36.heap.size, 3, none⟩ = some (.int .i64 3) := by rw [hw37]; exact box_cell (Below.refl _ _) rfl
          have M_4 : w37.cell? ⟨w36.heap.size, 4, none⟩ = some (.int .i64 1) := by rw [hw37]; exact box_cell (Below.refl _ _) rfl
          rw [e37] at M_0 M_1 M_2 M_3 M_4
          have raw37_R_0 := R_0
          have raw37_R_f0 := R_f0
          have raw37_R_1 := R_1
          have raw37_R_f1 := R_f1
          have raw37_Q_0 := Q_0
          have raw37_Q_1 := Q_1
          have raw37_X_0 := X_0
          have raw37_X_f0 := X_f0
          have raw37_X_1 := X_1
          have raw37_X_f1 := X_f1
          have raw37_N_0 := N_0
          have raw37_N_1 := N_1
          have raw37_N_2 := N_2
          have raw37_N_3 := N_3
          have raw37_N_4 := N_4
          have raw37_A_0 := A_0
          have raw37_A_1 := A_1
          have raw37_A_f0 := A_f0
          have raw37_A_f1 := A_f1
          have raw37_M_0 := M_0
          have raw37_M_1 := M_1
          have raw37_M_2 := M_2
          have raw37_M_3 := M_3
          have raw37_M_4 := M_4
          rw [hw37, hw36, hw35] at raw37_R_0 raw37_R_f0 raw37_R_1 raw37_R_f1 raw37_Q_0 raw37_Q_1 raw37_X_0 raw37_X_f0 raw37_X_1 raw37_X_f1 raw37_N_0 raw37_N_1 raw37_N_2 raw37_N_3 raw37_N_4 raw37_A_0 raw37_A_1 raw37_A_f0 raw37_A_f1 raw37_M_0 raw37_M_1 raw37_M_2 raw37_M_3 raw37_M_4
          go_wp2_with fail
          rw [← hw35]
          rw [← hw36]
          rw [← hw37]
          clear hw37 hw36 hw35
          clear old35_R_0 old35_R_1 old35_Q_0 old35_Q_1 old35_X_0 old35_X_1 raw35_R_0 raw35_R_f0 raw35_R_1 raw35_R_f1 raw35_Q_0 raw35_Q_1 raw35_X_0 raw35_X_f0 raw35_X_1 raw35_X_f1 raw35_N_0 raw35_N_1 raw35_N_2 raw35_N_3 raw35_N_4 raw36_R_0 raw36_R_f0 raw36_R_1 raw36_R_f1 raw36_Q_0 raw36_Q_1 raw36_X_0 raw36_X_f0 raw36_X_1 raw36_X_f1 raw36_N_0 raw36_N_1 raw36_N_2 raw36_N_3 raw36_N_4 raw36_A_0 raw36_A_1 raw36_A_f0 raw36_A_f1 raw37_R_0 raw37_R_f0 raw37_R_1 raw37_R_f1 raw37_Q_0 raw37_Q_1 raw37_X_0 raw37_X_f0 raw37_X_1 raw37_X_f1 raw37_N_0 raw37_N_1 raw37_N_2 raw37_N_3 raw37_N_4 raw37_A_0 raw37_A_1 raw37_A_f0 raw37_A_f1 raw37_M_0 raw37_M_1 raw37_M_2 raw37_M_3 raw37_M_4
          have HC_o := HC
          clear HC
          refine (l1Below_any _ cb ba bn bc 4 (by omega) HC_o).mono ?_
          rintro e w38 ⟨v0, rfl, hv0, hv1, hv2, HC, z38⟩
          clear HC_o
          have s39 := Nat.le_of_eq z38.size
          have s39' := Nat.le_of_eq z38.size.symm
          replace z38 := z38.turn
          have hb39 := hb37.trans z38
          replace R_0 := txc z38 R_0
          replace R_f0 := txf z38 R_f0
          replace R_1 := txc z38 R_1
          replace R_f1 := txf z38 R_f1
          replace Q_0 := txc z38 Q_0
          replace Q_1 := txc z38 Q_1
          replace X_0 := txc z38 X_0
          replace X_f0 := txf z38 X_f0
          replace X_1 := txc z38 X_1
          replace X_f1 := txf z38 X_f1
          replace oq := oq.turn z38 (by omega)
          replace oat := oat.turn z38 (by omega)
          replace N_0 := txc z38 N_0
          replace N_1 := txc z38 N_1
          replace N_2 := txc z38 N_2
          replace N_3 := txc z38 N_3
          replace N_4 := txc z38 N_4
          replace A_0 := txc z38 A_0
          replace A_1 := txc z38 A_1
          replace A_f0 := txf z38 A_f0
          replace A_f1 := txf z38 A_f1
          replace M_0 := txc z38 M_0
          replace M_1 := txc z38 M_1
          replace M_2 := txc z38 M_2
          replace M_3 := txc z38 M_3
          replace M_4 := txc z38 M_4
          obtain ⟨V0, rfl⟩ := Int.eq_ofNat_of_zero_le hv0
          have hV0 : V0 ≤ 3 := by have := hv1 (by omega); omega
          clear hv0 hv1 hv2
          have hAB : hi6 ≤ w13.heap.size + 1 ∧ w13.heap.size + 1 + 1 ≤ w38.heap.size := by omega
          have HW0 : Hid (WSt (w8.heap.size) (w13.heap.size + 1) w38 (ByteArray.mk #[118]) ab an ac [] (maxV x.1 []) w38) := Lib.hid ⟨none, 0, 0, A_0, A_1, A_f1, X_0, X_f0, X_1, X_f1, (own_nil_S (B := w13.heap.size + 1 + 1)).mono (Nat.le_refl _) (by omega), PF.refl _ _ _, by omega⟩
          clear N_0 N_1 N_2 N_3 N_4 M_0 M_1 M_2 M_3 M_4 A_0 A_1 A_f0 A_f1 X_0 X_f0 X_1 X_f1
          obtain ⟨wA, rfl⟩ : ∃ W, W = w38 := ⟨_, rfl⟩
          go_wp2_with fail
          go_loopw [11, 12] (fun v i wr => ∃ (i9 v9 : Nat) (vs : List Int), i9 ≤ 1 ∧ v9 ≤ 3 ∧ i = .int .i64 (i9 : Int) ∧ v = .int .i64 (v9 : Int) ∧ vs.length = i9 ∧ Hid (∀ u ∈ vs, 0 ≤ u ∧ u ≤ 3) ∧ Hid (WSt (w8.heap.size) (w13.heap.size + 1) wA (ByteArray.mk #[118]) ab an ac vs (maxV x.1 vs) wr)) (fun _ i _ => 1 - (intOf i).toNat)
          case atStart => exact ⟨0, V0, [], by omega, hV0, rfl, rfl, rfl, Lib.hid (fun u hu => by cases hu), HW0⟩
          case round =>
            clear HW0
            obtain ⟨i9, v9, vs, hi9, hv9, rfl, rfl, hvl, HVS, HW⟩ := hrel
            obtain ⟨wv, rfl⟩ : ∃ W, W = wr := ⟨_, rfl⟩
            obtain ⟨b, n, c, A_0, A_1, A_f1, X_0, X_f0, X_1, X_f1, ov, hpf, hsz⟩ := HW.out
            clear HW
            obtain ⟨mc, hmc⟩ : ∃ q, maxV x.1 vs = q := ⟨_, rfl⟩
            have hmr := maxV_rng (vs := vs) (c := x.1) hx4 HVS.out
            rw [hmc] at X_0 hmr
            by_cases hii : i9 < 1
            · have hiI : (i9 : Int) < 1 := by omega
              obtain ⟨na, nn, nc, wn, hrn, on_, hbn, hzn⟩ := own_num 32 ov (r := (v9 : Int)) ⟨by omega, by omega⟩ (Nat.le_refl _) hsz (by omega) rfl
              have sn := hbn.size
              have a1o := A_1
              replace A_0 := bxc hbn A_0
              replace A_1 := bxc hbn A_1
              replace A_f1 := bxf hbn A_f1
              replace X_0 := bxc hbn X_0
              replace X_f0 := bxf hbn X_f0
              replace X_1 := bxc hbn X_1
              replace X_f1 := bxf hbn X_f1
              have hpn := hpf.trans (PF.of (X := w8.heap.size) (hi := w13.heap.size + 1) hbn (by omega))
              clear hpf ov hbn
              go_wp2_with (at_builtin; refine wpList_app_run hrn rfl rfl rfl rfl rfl ?_)
              have HVS2 : Hid (∀ u ∈ vs ++ [(v9 : Int)], 0 ≤ u ∧ u ≤ 3) := Lib.hid (fun u hu => by
                rcases List.mem_append.1 hu with hu | hu
                · exact HVS.out u hu
                · simp at hu; omega)
              have HN : Hid (WSt (w8.heap.size) (w13.heap.size + 1) wA (ByteArray.mk #[118]) ab an ac (vs ++ [(v9 : Int)]) (maxV x.1 (vs ++ [(v9 : Int)])) ((wn.setCell ⟨w13.heap.size + 1, 1, none⟩ (.slice na nn nc)).setCell ⟨w8.heap.size, 0, none⟩ (.int .i64 (max mc ((v9 : Int) + 1))))) := Lib.hid (by
                rw [maxV_snoc, hmc]
                have x0 : (wn.setCell ⟨w13.heap.size + 1, 1, none⟩ (.slice na nn nc)).cell? ⟨w8.heap.size, 0, none⟩ = some (.int .i64 mc) := (World.cell?_of_block (a := ⟨w8.heap.size, 0, none⟩) (Below.heap_setCell _ _ _ _ (by simp only []; omega))).trans X_0
                have x1 : (wn.setCell ⟨w13.heap.size + 1, 1, none⟩ (.slice na nn nc)).cell? ⟨w8.heap.size, 1, none⟩ = some (.slice ab an ac) := (World.cell?_of_block (a := ⟨w8.heap.size, 1, none⟩) (Below.heap_setCell _ _ _ _ (by simp only []; omega))).trans X_1
                have xf0 : (wn.setCell ⟨w13.heap.size + 1, 1, none⟩ (.slice na nn nc)).frozen? ⟨w8.heap.size, 0, none⟩ = false := (World.frozen?_of_block (a := ⟨w8.heap.size, 0, none⟩) (Below.heap_setCell _ _ _ _ (by simp only []; omega))).trans X_f0
                have xf1 : (wn.setCell ⟨w13.heap.size + 1, 1, none⟩ (.slice na nn nc)).frozen? ⟨w8.heap.size, 1, none⟩ = false := (World.frozen?_of_block (a := ⟨w8.heap.size, 1, none⟩) (Below.heap_setCell _ _ _ _ (by simp only []; omega))).trans X_f1
                refine ⟨na, nn, nc, (World.cell?_of_block (a := ⟨w13.heap.size + 1, 0, none⟩) (Below.heap_setCell _ _ _ _ (by simp only []; omega))).trans (by simp [go_sem, A_0]), (World.cell?_of_block (a := ⟨w13.heap.size + 1, 1, none⟩) (Below.heap_setCell _ _ _ _ (by simp only []; omega))).trans (by simp [go_sem, A_1]), (World.frozen?_of_block (a := ⟨w13.heap.size + 1, 1, none⟩) (Below.heap_setCell _ _ _ _ (by simp only []; omega))).trans (by simp [go_sem, A_f1]), by simp [go_sem, x0], by simp [go_sem, xf0], by simp [go_sem, x1], by simp [go_sem, xf1], ?_, ?_, ?_⟩
                · exact (Own.setOut (Own.setOut on_ rfl (by simp only []; omega)) rfl (by simp only []; omega)).mono (Nat.le_refl _) (by simp [World.setCell])
                · exact (hpn.set (p := ⟨w13.heap.size + 1, 1, none⟩) (.inr (Nat.le_refl _)) _).set (p := ⟨w8.heap.size, 0, none⟩) (.inl rfl) _
                · simp [World.setCell]; omega)
              clear A_0 A_1 A_f1 X_0 X_f0 X_1 X_f1 hpn on_ a1o
              have hmod : ((v9 : Int) + 1) % 4 = (((v9 + 1) % 4 : Nat) : Int) := by omega
              go_roundw
              case rel => exact ⟨i9 + 1, (v9 + 1) % 4, vs ++ [(v9 : Int)], by omega, by omega, by go_num, by rw [hmod], by rw [List.length_append, hvl]; rfl, HVS2, HN⟩
              case measure => simp [intOf]; omega
            · obtain rfl : i9 = 1 := by omega
              have hiI : ¬ ((1 : Nat) : Int) < 1 := by omega
              have zI : Below (w8.heap.size) wA wv := hpf.below (by omega) (Nat.le_refl _)
              have oak := hpf.own oat (by omega) (.inl (by omega))
              clear oat
              have oAt : Own oA (w13.heap.size + 1 + 1) wv.heap.size wv [.string (ByteArray.mk #[118]), .slice b n c] ((ByteArray.mk #[118]), vs) := oA_mk (x := ((ByteArray.mk #[118]), vs)) (show (ByteArray.mk #[118]).size ≤ 9223372036854775807 by decide) ov (Nat.le_refl _) (Nat.le_refl _)
              obtain ⟨na, nn, nc, wn, hrn, on_, hzn, hzs⟩ := own_atom 27 oak oAt (Nat.le_refl _) (by omega) (by omega) hsz (by omega) rfl
              have sI := zI.size
              have hzB : Below (w8.heap.size + 1) wv wn := hzn.below (by omega)
              have hS1 := zI.trans ((hzB.mono (by omega)).trans (Below.setCell (p := ⟨w8.heap.size, 1, none⟩) (Below.refl (w8.heap.size) wn) (by simp only []; omega) (.slice na nn nc)))
              have y0 := bxc hzB X_0
              have yf0 := bxf hzB X_f0
              have y1 := bxc hzB X_1
              have yf1 := bxf hzB X_f1
              have HOS : Hid (L7St w cb ba bn bc (w5.heap.size) (w8.heap.size) lo1 hi1 q0 qb qn qc y k' (wn.setCell ⟨w8.heap.size, 1, none⟩ (.slice na nn nc))) := Lib.hid ⟨(mc, x.2 ++ [((ByteArray.mk #[118]), vs)]), na, nn, nc, by rw [List.length_append]; simp; omega, hmr,
                (hS1.cell (p := ⟨w.heap.size, 0, none⟩) (by simp only []; omega)).trans R_0, (hS1.frozen (p := ⟨w.heap.size, 0, none⟩) (by simp only []; omega)).trans R_f0, (hS1.cell (p := ⟨w.heap.size, 1, none⟩) (by simp only []; omega)).trans R_1, (hS1.frozen (p := ⟨w.heap.size, 1, none⟩) (by simp only []; omega)).trans R_f1,
                (hS1.cell (p := ⟨w5.heap.size, 0, none⟩) (by simp only []; omega)).trans Q_0, (hS1.cell (p := ⟨w5.heap.size, 1, none⟩) (by simp only []; omega)).trans Q_1,
                by simp [go_sem, y0], by simp [go_sem, yf0], by simp [go_sem, y1], by simp [go_sem, yf1],
                oq.below hS1 (by omega), (own_off on_ rfl (by simp only []; omega)).mono (Nat.le_refl _) (by simp [World.setCell]), HC.below' hS1 (by omega), turn_on' hb39 (hS1.mono (by omega)), by simp [World.setCell]; omega⟩
              clear y0 on_ oAt oak ov hpf hS1 hzB zI
              go_wp2_with (at_builtin; refine wpList_app_run hrn rfl rfl rfl rfl rfl ?_)
              go_roundw
              case rel => exact ⟨k', by omega, by go_num, HOS⟩
              case measure => simp [intOf]
      · obtain rfl : k = 0 := by omega
        go_wp2_with fail
        refine (validQ_spec [.int .i64 x.1, .slice ab an ac] x _ (rQ_mk (show I64 x.1 from ⟨by omega, by omega⟩) (oat.rd reads_As))).mono ?_
        rintro e w40 ⟨rfl, z40⟩
        have s41 := z40.size
        have hb41 := turn_on' hbo (z40.mono (by omega))
        replace HC := HC.below' z40 (by omega)
        replace R_0 := bxc z40 R_0
        replace R_f0 := bxf z40 R_f0
        replace R_1 := bxc z40 R_1
        replace R_f1 := bxf z40 R_f1
        replace Q_0 := bxc z40 Q_0
        replace Q_1 := bxc z40 Q_1
        replace X_0 := bxc z40 X_0
        replace X_f0 := bxf z40 X_f0
        replace X_1 := bxc z40 X_1
        replace X_f1 := bxf z40 X_f1
        replace oq := oq.below z40 (by omega)
        replace oat := oat.below z40 (by omega)
        cases hv : validQ x with
        | false =>
          go_wp2_with fail
          refine bodyPost_ret (v := .agg #[.int .i64 q0, .slice qb qn qc]) (by simp [results, Tryz.results50, go_sem, R_0, R_1, R_f0, R_f1]) rfl ⟨q0, qb, qn, qc, y, rfl, ?_, hval, ?_, ?_⟩
          · refine Own.mono (lo := lo1) (hi := hi1) ?_ (by omega) (by simp [World.setCell]; omega)
            repeat (refine own_off ?_ rfl (by simp only []; omega))
            exact oq
          · refine Cur.below' (C := w.heap.size) HC ?_ hcb
            repeat (refine Below.setCell ?_ (by simp only []; omega) _)
            exact Below.refl _ _
          · refine turn_on' hb41 ?_
            repeat (refine Below.setCell ?_ (by simp only []; omega) _)
            exact Below.refl _ _
        | true =>
          go_wp2_with fail
          refine bodyPost_ret (v := .agg #[.int .i64 x.1, .slice ab an ac]) (by simp [results, Tryz.results50, go_sem, R_0, R_1, R_f0, R_f1]) rfl ⟨x.1, ab, an, ac, x, rfl, ?_, hv, ?_, ?_⟩
          · refine Own.mono (lo := w8.heap.size + 1) (hi := hi6) ?_ (by omega) (by simp [World.setCell]; omega)
            repeat (refine own_off ?_ rfl (by simp only []; omega))
            exact (oQ_mk (x := x) (show I64 x.1 from ⟨by omega, by omega⟩) oat (Nat.le_refl _) (Nat.le_refl _))
          · refine Cur.below' (C := w.heap.size) HC ?_ hcb
            repeat (refine Below.setCell ?_ (by simp only []; omega) _)
            exact Below.refl _ _
          · refine turn_on' hb41 ?_
            repeat (refine Below.setCell ?_ (by simp only []; omega) _)
            exact Below.refl _ _

end Go.Proofs.YtpgfkjcekhifiaaGreat
